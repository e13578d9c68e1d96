/- Texts of this seat, one behind the other: O3 O4 O5 O6 O7 O8 O10 O11 O12 O13 O15 O16 N16 O17 O18 O19 O20 O21 O22. -/
import Derived.Test.YtbmngkdnebklpaaZ3
import Derived.Shelf.Spec.SlicesGrow
section
/- frames: literals, gates, constraints, next, first, step: the walks. -/
set_option linter.unusedVariables false
set_option linter.unusedSimpArgs false
namespace Go.Proofs.Ytbmngkdnebklpaa
namespace SC
open Go.Proofs
attribute [local irreducible] WC WL WX WS WO OX Does DoesU Enters CV Pure thenQ blockQ retQ Wants retQC GC GL GS GX RdB thenG blockG retG Rd At gt CVN CVM
set_option maxRecDepth 100000
theorem at_cv {w : World} {c : Circ} {h : Hd} {l t : Int} (h0 : 0 ≤ l) (h1 : l ≤ 40000) (h2 : 0 ≤ t * c.max) (h3 : t * c.max ≤ 10000000) : CVN Try.prog 43 [.agg (ccells c h).toArray, nu l, nu t] w fun v N => N = [] ∧ v = nu (atM c.max l t) := by
  refine CVN.enter 25 [6] Try.func43 rfl rfl rfl (by decide) rfl ?_
  by_cases hb : l % 2 = 1
  · by_cases hv : 0 < l / 2
    · have e : atM c.max l t = -(1 + t * c.max + l / 2) := by unfold atM; rw [if_pos hb, if_pos hv]
      rw [e]
      repeat' (first
 | (apply GC_seqK; intro K hK)
 | (apply hK; clear hK K)
 | (apply GC_region)
 | (apply GL_nil)
 | (apply thenG_normal)
 | (apply thenG_ret)
 | (apply GC_ret)
 | (apply GC_if_true; eq_refl)
 | (apply retG1; eq_refl)
 | (apply GL_on; eq_refl; eq_refl)
 | (apply G_pv; eq_refl; first | exact trivial | omega)
 | (apply G_field; eq_refl)
 | (apply G_ld; eq_refl; (repeat first | exact In.here | apply In.there | apply In.skip); eq_refl)
 | (apply G_cmpT; eq_refl; eq_refl; omega)
 | (apply G_neg; eq_refl; omega; omega)
 | (apply G_box; eq_refl; eq_refl; intro _))
      exact ⟨[], (by repeat first | exact Wk.nil | exact Wk.refl | (apply Wk.cons; (focus ((repeat first | exact Rem.here | apply Rem.there | apply Rem.skip); done))) | apply Wk.nilv | apply Wk.last | apply Wk.drop), rfl, rfl⟩
    · have e : atM c.max l t = -1 := by unfold atM; rw [if_pos hb, if_neg hv]
      rw [e]
      repeat' (first
 | (apply GC_seqK; intro K hK)
 | (apply hK; clear hK K)
 | (apply GC_region)
 | (apply GL_nil)
 | (apply thenG_normal)
 | (apply thenG_ret)
 | (apply GC_ret)
 | (apply GC_skip)
 | (apply GC_if_true; eq_refl)
 | (apply GC_if_false; eq_refl)
 | (apply retG1; eq_refl)
 | (apply GL_on; eq_refl; eq_refl)
 | (apply G_pv; eq_refl; first | exact trivial | omega)
 | (apply G_cmpT; eq_refl; eq_refl; omega)
 | (apply G_cmpF; eq_refl; eq_refl; omega)
 | (apply G_neg; eq_refl; omega; omega)
 | (apply G_box; eq_refl; eq_refl; intro _))
      exact ⟨[], (by repeat first | exact Wk.nil | exact Wk.refl | (apply Wk.cons; (focus ((repeat first | exact Rem.here | apply Rem.there | apply Rem.skip); done))) | apply Wk.nilv | apply Wk.last | apply Wk.drop), rfl, rfl⟩
  · by_cases hv : 0 < l / 2
    · have e : atM c.max l t = 1 + t * c.max + l / 2 := by unfold atM; rw [if_neg hb, if_pos hv]
      rw [e]
      repeat' (first
 | (apply GC_seqK; intro K hK)
 | (apply hK; clear hK K)
 | (apply GC_region)
 | (apply GL_nil)
 | (apply thenG_normal)
 | (apply GC_ret)
 | (apply GC_skip)
 | (apply GC_if_true; eq_refl)
 | (apply GC_if_false; eq_refl)
 | (apply retG1; eq_refl)
 | (apply GL_on; eq_refl; eq_refl)
 | (apply G_pv; eq_refl; first | exact trivial | omega)
 | (apply G_field; eq_refl)
 | (apply G_ld; eq_refl; (repeat first | exact In.here | apply In.there | apply In.skip); eq_refl)
 | (apply G_cmpT; eq_refl; eq_refl; omega)
 | (apply G_cmpF; eq_refl; eq_refl; omega)
 | (apply G_box; eq_refl; eq_refl; intro _))
      exact ⟨[], (by repeat first | exact Wk.nil | exact Wk.refl | (apply Wk.cons; (focus ((repeat first | exact Rem.here | apply Rem.there | apply Rem.skip); done))) | apply Wk.nilv | apply Wk.last | apply Wk.drop), rfl, rfl⟩
    · have e : atM c.max l t = 1 := by unfold atM; rw [if_neg hb, if_neg hv]
      rw [e]
      repeat' (first
 | (apply GC_seqK; intro K hK)
 | (apply hK; clear hK K)
 | (apply GC_region)
 | (apply GL_nil)
 | (apply thenG_normal)
 | (apply GC_ret)
 | (apply GC_skip)
 | (apply GC_if_false; eq_refl)
 | (apply retG1; eq_refl)
 | (apply GL_on; eq_refl; eq_refl)
 | (apply G_pv; eq_refl; first | exact trivial | omega)
 | (apply G_cmpF; eq_refl; eq_refl; omega)
 | (apply G_box; eq_refl; eq_refl; intro _))
      exact ⟨[], (by repeat first | exact Wk.nil | exact Wk.refl | (apply Wk.cons; (focus ((repeat first | exact Rem.here | apply Rem.there | apply Rem.skip); done))) | apply Wk.nilv | apply Wk.last | apply Wk.drop), rfl, rfl⟩
theorem gatesS_cv {w : World} {c : Circ} {h js : Hd} {t : Int} (R : Right c) (H : CirAt w c h js) (t0 : 0 ≤ t) (t1 : t ≤ 600) : CVN Try.prog 62 [.agg (ccells c h).toArray, nu t] w (CliR (gatesS c t)) := by
  have hAnd := H.ands
  have m0 := R.m0
  have m1 := R.m1
  have n3 := R.nAnd
  obtain ⟨z0, z1⟩ := mul_le t0 t1 m0 m1
  have hat : ∀ Γ l, inR c l → ∀ w', Mem w' Γ → CVN Try.prog 43 [.agg (ccells c h).toArray, nu l, nu t] w' fun v N => N = [] ∧ v = nu (atM c.max l t) := fun Γ l hl w' M => at_cv hl.1 (by unfold inR at hl; omega) z0 z1
  refine CVN.enter 53 [4] Try.func62 rfl rfl rfl (by decide) rfl ?_
  repeat' (first
 | (apply GC_seqK; intro K hK)
 | (apply hK; clear hK K)
 | (apply GC_block)
 | (apply GC_region)
 | (apply GL_nil)
 | (apply thenG_normal)
 | (apply GL_on; eq_refl; eq_refl)
 | (apply G_pv; eq_refl; first | exact trivial | omega)
 | (apply G_field; eq_refl)
 | (apply G_ld; eq_refl; (repeat first | exact In.here | apply In.there | apply In.skip); eq_refl)
 | (apply G_len; eq_refl)
 | (apply G_box; eq_refl; eq_refl; intro _))
  rename_i b2
  refine GC_loopK [1, 2, 13, 14] (fun s : Nat × List (Hdl × List Int) × Option Addr × Nat => [(5, .slice s.2.2.1 s.2.1.length s.2.2.2), (15, nu s.1)]) (fun s => [.any (bun (fam rowJ s.2.1)), .vec encS 1 67 s.2.2.1 s.2.2.2 s.2.1, .box b2 69 (ccells c h), .old w none_])
    (fun s => s.1 ≤ c.ands.length ∧ s.2.1.map (·.2) = (c.ands.take s.1).flatMap (gateS c.max t)) (fun s => c.ands.length - s.1) (0, [], none, 0) (by repeat first | exact Pick.nil | (apply Pick.cons; eq_refl)) (by repeat first | exact trivial | refine ⟨rfl, ?_⟩) (rows_nil (Wk.nilv (by repeat first | exact Wk.nil | exact Wk.refl | (apply Wk.cons; (focus ((repeat first | exact Rem.here | apply Rem.there | apply Rem.skip); done))) | apply Wk.nilv | apply Wk.last | apply Wk.drop))) ⟨Nat.zero_le _, rfl⟩ ?_
  rintro ⟨i, ps, A, kA⟩ ⟨hi, hps⟩
  dsimp only at hi hps ⊢
  have hpl : ps.length = 3 * i := by
    have := congrArg List.length hps
    rw [List.length_map, flat_eq (fun _ => gateS_len)] at this
    simp only [List.length_take] at this
    omega
  rcases Nat.lt_or_ge i c.ands.length with hlt | hge
  · obtain ⟨g1, g2, g3⟩ := R.gate (gt_mem (l := c.ands) (i := (i : Int)) (by omega) (by omega))
    have g0 : inR c (gt c.ands (i : Int)).1 := g1.in
    have a1 := atM_le (mx := c.max) (t := t) g0.1 (by unfold inR at g0; omega) z0 z1
    have a2 := atM_le (mx := c.max) (t := t) g2.1 (by unfold inR at g2; omega) z0 z1
    have a3 := atM_le (mx := c.max) (t := t) g3.1 (by unfold inR at g3; omega) z0 z1
    have hsn := flat_snoc (f := gateS c.max t) hlt
    repeat' (first
 | (apply G_call; eq_refl; eq_refl; (apply hat; first | exact g0 | exact g2 | exact g3); rintro _ _ ⟨rfl, rfl⟩)
 | (apply G_app (enc := encS); (first | exact wr_p | kernel_rfl); eq_refl; eq_refl; (intro A c; (repeat first | exact Upd.here | apply Upd.there | apply Upd.skip)); infer_instance; (repeat first | exact In.here | apply In.there | apply In.skip); (exact (Dec.c1 (a := ((_, _), [-atM c.max (gt c.ands (i : Int)).1 t, atM c.max (gt c.ands (i : Int)).2.1 t])) rfl (Dec.c1 (a := ((_, _), [-atM c.max (gt c.ands (i : Int)).1 t, atM c.max (gt c.ands (i : Int)).2.2 t])) rfl (Dec.c1 (a := ((_, _), [atM c.max (gt c.ands (i : Int)).1 t, -atM c.max (gt c.ands (i : Int)).2.1 t, -atM c.max (gt c.ands (i : Int)).2.2 t])) rfl Dec.nil)))); eq_refl; eq_refl; eq_refl; (simp only [List.length_cons, List.length_nil]; omega); decide; intro A9 k9)
 | (apply GC_seqK; intro K hK)
 | (apply hK; clear hK K)
 | (apply GC_block)
 | (apply GC_region)
 | (apply GL_nil)
 | (apply thenG_normal)
 | (apply blockG_normal)
 | (apply GC_skip)
 | (apply GC_if_true; eq_refl)
 | (apply GL_on; eq_refl; eq_refl)
 | (refine GC_draws (id := 5) [.q 0, .q 1, .q 2, .q 3, .q 5, .q 6, .q 7, .q 8, .q 10, .q 11, .q 12, .q 13, .c 4, .c 9, .c 14, .q 15, .q 16, .q 17] mixed (by kernel_rfl) (by kernel_rfl) ?_)
 | (apply GS_nil)
 | (apply GS_qon; eq_refl; eq_refl; eq_refl; eq_refl)
 | (apply GS_con; eq_refl; eq_refl; eq_refl; eq_refl)
 | (apply G_pv; eq_refl; first | exact trivial | omega)
 | (apply G_field; eq_refl)
 | (apply G_ld; eq_refl; (repeat first | exact In.here | apply In.there | apply In.skip); eq_refl)
 | (apply G_ldW; eq_refl; (repeat first | exact In.here | apply In.there | apply In.skip); eq_refl)
 | (apply G_rdW; eq_refl; (first | (apply Rd.own; (repeat first | exact In.here | apply In.there | apply In.skip); infer_instance) | (apply Rd.old; (repeat first | exact In.here | apply In.there | apply In.skip); assumption) | (apply Rd.oldR; (repeat first | exact In.here | apply In.there | apply In.skip); assumption) | exact Rd.nil | assumption); infer_instance; (case ih => infer_instance); omega; omega)
 | (apply G_cmpT; eq_refl; eq_refl; omega)
 | (apply G_ix; eq_refl; eq_refl; (first | (apply Rd.own; (repeat first | exact In.here | apply In.there | apply In.skip); infer_instance) | (apply Rd.old; (repeat first | exact In.here | apply In.there | apply In.skip); assumption) | (apply Rd.oldR; (repeat first | exact In.here | apply In.there | apply In.skip); assumption) | exact Rd.nil | assumption); (first | eq_refl | omega); omega; omega)
 | (apply G_neg; eq_refl; omega; omega)
 | (apply G_alloc; eq_refl; intro _)
 | (apply G_stW; (first | exact wr_p | kernel_rfl); eq_refl; eq_refl; eq_refl; eq_refl; (repeat first | exact Upd.here | apply Upd.there | apply Upd.skip); eq_refl)
 | (apply G_new (fun b => .slice (some ⟨b, 0, none⟩) 2 2); eq_refl; (intro _; apply buildS67_2 <;> eq_refl); intro _)
 | (apply G_new (fun b => .slice (some ⟨b, 0, none⟩) 3 3); eq_refl; (intro _; apply buildS67_3 <;> eq_refl); intro _)
 | (apply G_new (fun b => .slice (some ⟨b, 0, none⟩) 3 3); eq_refl; (intro _; apply buildS32_3 <;> eq_refl); intro _))
    rename_i b7 c1 c2 c3 c4
    refine ⟨(i + 1, ps ++ [((some ⟨c1, 0, none⟩, 2), [-atM c.max (gt c.ands (i : Int)).1 t, atM c.max (gt c.ands (i : Int)).2.1 t]), ((some ⟨c2, 0, none⟩, 2), [-atM c.max (gt c.ands (i : Int)).1 t, atM c.max (gt c.ands (i : Int)).2.2 t]), ((some ⟨c3, 0, none⟩, 3), [atM c.max (gt c.ands (i : Int)).1 t, -atM c.max (gt c.ands (i : Int)).2.1 t, -atM c.max (gt c.ands (i : Int)).2.2 t])], A9, k9), (by repeat first | exact trivial | refine ⟨rfl, ?_⟩), (by dsimp only; exact Wk.add3 (by repeat first | exact Rem.here | apply Rem.there | apply Rem.skip) (by repeat first | exact Rem.here | apply Rem.there | apply Rem.skip) (by repeat first | exact Rem.here | apply Rem.there | apply Rem.skip) (by repeat first | exact Rem.here | apply Rem.there | apply Rem.skip) rfl rfl rfl (Nat.le_of_ble_eq_true rfl) (Nat.le_of_ble_eq_true rfl) (Nat.le_of_ble_eq_true rfl) (by repeat first | exact Wk.nil | exact Wk.refl | (apply Wk.cons; (focus ((repeat first | exact Rem.here | apply Rem.there | apply Rem.skip); done))) | apply Wk.nilv | apply Wk.last | apply Wk.drop)), ⟨hlt, ?_⟩, by simp only; omega⟩
    simp only
    rw [hsn, List.map_append, hps]
    rfl
  · obtain rfl : i = c.ands.length := by omega
    rw [List.take_length] at hps
    repeat' (first
 | (apply GC_seqK; intro K hK)
 | (apply hK; clear hK K)
 | (clear hK K; apply hK; clear hK K)
 | (apply GC_region)
 | (apply GL_nil)
 | (apply thenG_normal)
 | (apply thenG_exit)
 | (apply blockG_hit)
 | (apply GC_ret)
 | (apply GC_exit)
 | (apply GC_if_false; eq_refl)
 | (apply retG1; eq_refl)
 | (apply GL_on; eq_refl; eq_refl)
 | (apply G_pv; eq_refl; first | exact trivial | omega)
 | (apply G_cmpF; eq_refl; eq_refl; omega))
    exact ⟨[.vec encS 1 67 A kA ps, .any (bun (fam rowJ ps))], (by repeat first | exact Wk.nil | exact Wk.refl | (apply Wk.cons; (focus ((repeat first | exact Rem.here | apply Rem.there | apply Rem.skip); done))) | apply Wk.nilv | apply Wk.last | apply Wk.drop), ps, A, kA, rfl, hps, rfl⟩
theorem consS_cv {w : World} {c : Circ} {h js : Hd} {t : Int} (R : Right c) (H : CirAt w c h js) (t0 : 0 ≤ t) (t1 : t ≤ 600) : CVN Try.prog 63 [.agg (ccells c h).toArray, nu t] w (CliR (consS c t)) := by
  have hCon := H.constraints
  have m0 := R.m0
  have m1 := R.m1
  have n3 := R.nCon
  obtain ⟨z0, z1⟩ := mul_le t0 t1 m0 m1
  have hat : ∀ Γ l, inR c l → ∀ w', Mem w' Γ → CVN Try.prog 43 [.agg (ccells c h).toArray, nu l, nu t] w' fun v N => N = [] ∧ v = nu (atM c.max l t) := fun Γ l hl w' M => at_cv hl.1 (by unfold inR at hl; omega) z0 z1
  refine CVN.enter 26 [4] Try.func63 rfl rfl rfl (by decide) rfl ?_
  repeat' (first
 | (apply GC_seqK; intro K hK)
 | (apply hK; clear hK K)
 | (apply GC_block)
 | (apply GC_region)
 | (apply GL_nil)
 | (apply thenG_normal)
 | (apply GL_on; eq_refl; eq_refl)
 | (apply G_pv; eq_refl; first | exact trivial | omega)
 | (apply G_field; eq_refl)
 | (apply G_ld; eq_refl; (repeat first | exact In.here | apply In.there | apply In.skip); eq_refl)
 | (apply G_len; eq_refl)
 | (apply G_box; eq_refl; eq_refl; intro _))
  rename_i b2
  refine GC_loopK [1, 2, 10, 11] (fun s : Nat × List (Hdl × List Int) × Option Addr × Nat => [(5, .slice s.2.2.1 s.2.1.length s.2.2.2), (12, nu s.1)]) (fun s => [.any (bun (fam rowJ s.2.1)), .vec encS 1 67 s.2.2.1 s.2.2.2 s.2.1, .box b2 69 (ccells c h), .old w none_])
    (fun s => s.1 ≤ c.constraints.length ∧ s.2.1.map (·.2) = (c.constraints.take s.1).map fun l => [atM c.max l t]) (fun s => c.constraints.length - s.1) (0, [], none, 0) (by repeat first | exact Pick.nil | (apply Pick.cons; eq_refl)) (by repeat first | exact trivial | refine ⟨rfl, ?_⟩) (rows_nil (Wk.nilv (by repeat first | exact Wk.nil | exact Wk.refl | (apply Wk.cons; (focus ((repeat first | exact Rem.here | apply Rem.there | apply Rem.skip); done))) | apply Wk.nilv | apply Wk.last | apply Wk.drop))) ⟨Nat.zero_le _, rfl⟩ ?_
  rintro ⟨i, ps, A, kA⟩ ⟨hi, hps⟩
  dsimp only at hi hps ⊢
  have hpl : ps.length = i := by
    have := congrArg List.length hps
    simp only [List.length_map, List.length_take] at this
    omega
  rcases Nat.lt_or_ge i c.constraints.length with hlt | hge
  · have g0 := R.con (gt_mem (l := c.constraints) (i := (i : Int)) (by omega) (by omega))
    have a1 := atM_le (mx := c.max) (t := t) g0.1 (by unfold inR at g0; omega) z0 z1
    repeat' (first
 | (apply G_call; eq_refl; eq_refl; (apply hat; exact g0); rintro _ _ ⟨rfl, rfl⟩)
 | (apply G_app (enc := encS); (first | exact wr_p | kernel_rfl); eq_refl; eq_refl; (intro A c; (repeat first | exact Upd.here | apply Upd.there | apply Upd.skip)); infer_instance; (repeat first | exact In.here | apply In.there | apply In.skip); (exact (Dec.c1 (a := ((_, _), [atM c.max (gt c.constraints (i : Int)) t])) rfl Dec.nil)); eq_refl; eq_refl; eq_refl; (simp only [List.length_cons, List.length_nil]; omega); decide; intro A9 k9)
 | (apply GC_seqK; intro K hK)
 | (apply hK; clear hK K)
 | (apply GC_block)
 | (apply GC_region)
 | (apply GL_nil)
 | (apply thenG_normal)
 | (apply blockG_normal)
 | (apply GC_skip)
 | (apply GC_if_true; eq_refl)
 | (apply GL_on; eq_refl; eq_refl)
 | (apply G_pv; eq_refl; first | exact trivial | omega)
 | (apply G_ldW; eq_refl; (repeat first | exact In.here | apply In.there | apply In.skip); eq_refl)
 | (apply G_rd; eq_refl; (first | (apply Rd.own; (repeat first | exact In.here | apply In.there | apply In.skip); infer_instance) | (apply Rd.old; (repeat first | exact In.here | apply In.there | apply In.skip); assumption) | (apply Rd.oldR; (repeat first | exact In.here | apply In.there | apply In.skip); assumption) | exact Rd.nil | assumption); (case ih => infer_instance); omega; omega; eq_refl)
 | (apply G_cmpT; eq_refl; eq_refl; omega)
 | (apply G_ix; eq_refl; eq_refl; (first | (apply Rd.own; (repeat first | exact In.here | apply In.there | apply In.skip); infer_instance) | (apply Rd.old; (repeat first | exact In.here | apply In.there | apply In.skip); assumption) | (apply Rd.oldR; (repeat first | exact In.here | apply In.there | apply In.skip); assumption) | exact Rd.nil | assumption); (first | eq_refl | omega); omega; omega)
 | (apply G_new (fun b => .slice (some ⟨b, 0, none⟩) 1 1); eq_refl; (intro _; apply buildS67_1 <;> eq_refl); intro _)
 | (apply G_new (fun b => .slice (some ⟨b, 0, none⟩) 1 1); eq_refl; (intro _; apply buildS32_1 <;> eq_refl); intro _))
    rename_i c1 c4
    refine ⟨(i + 1, ps ++ [((some ⟨c1, 0, none⟩, 1), [atM c.max (gt c.constraints (i : Int)) t])], A9, k9), (by repeat first | exact trivial | refine ⟨rfl, ?_⟩), (by dsimp only; exact Wk.add1 (by repeat first | exact Rem.here | apply Rem.there | apply Rem.skip) (by repeat first | exact Rem.here | apply Rem.there | apply Rem.skip) rfl (Nat.le_of_ble_eq_true rfl) (by repeat first | exact Wk.nil | exact Wk.refl | (apply Wk.cons; (focus ((repeat first | exact Rem.here | apply Rem.there | apply Rem.skip); done))) | apply Wk.nilv | apply Wk.last | apply Wk.drop)), ⟨hlt, ?_⟩, by simp only; omega⟩
    simp only
    rw [List.take_succ_eq_append_getElem hlt, List.map_append, List.map_append, hps, ← gt_nat hlt]
    rfl
  · obtain rfl : i = c.constraints.length := by omega
    rw [List.take_length] at hps
    repeat' (first
 | (apply GC_seqK; intro K hK)
 | (apply hK; clear hK K)
 | (clear hK K; apply hK; clear hK K)
 | (apply GC_region)
 | (apply GL_nil)
 | (apply thenG_normal)
 | (apply thenG_exit)
 | (apply blockG_hit)
 | (apply GC_ret)
 | (apply GC_exit)
 | (apply GC_if_false; eq_refl)
 | (apply retG1; eq_refl)
 | (apply GL_on; eq_refl; eq_refl)
 | (apply G_pv; eq_refl; first | exact trivial | omega)
 | (apply G_cmpF; eq_refl; eq_refl; omega))
    exact ⟨[.vec encS 1 67 A kA ps, .any (bun (fam rowJ ps))], (by repeat first | exact Wk.nil | exact Wk.refl | (apply Wk.cons; (focus ((repeat first | exact Rem.here | apply Rem.there | apply Rem.skip); done))) | apply Wk.nilv | apply Wk.last | apply Wk.drop), ps, A, kA, rfl, hps, rfl⟩
theorem nextS_cv {w : World} {c : Circ} {h js : Hd} {t : Int} (R : Right c) (H : CirAt w c h js) (t0 : 0 ≤ t) (t1 : t ≤ 599) : CVN Try.prog 35 [.agg (ccells c h).toArray, nu t] w (CliR (nextS c t)) := by
  have hLat := H.latches
  have m0 := R.m0
  have m1 := R.m1
  have n3 := R.nLat
  obtain ⟨z0, z1⟩ := mul_le t0 (by omega : t ≤ 600) m0 m1
  obtain ⟨y0, y1⟩ := mul_le (by omega : 0 ≤ t + 1) (by omega : t + 1 ≤ 600) m0 m1
  have hat : ∀ Γ l, inR c l → ∀ w', Mem w' Γ → CVN Try.prog 43 [.agg (ccells c h).toArray, nu l, nu t] w' fun v N => N = [] ∧ v = nu (atM c.max l t) := fun Γ l hl w' M => at_cv hl.1 (by unfold inR at hl; omega) z0 z1
  have hat2 : ∀ Γ l, inR c l → ∀ w', Mem w' Γ → CVN Try.prog 43 [.agg (ccells c h).toArray, nu l, nu (t + 1)] w' fun v N => N = [] ∧ v = nu (atM c.max l (t + 1)) := fun Γ l hl w' M => at_cv hl.1 (by unfold inR at hl; omega) y0 y1
  refine CVN.enter 42 [4] Try.func35 rfl rfl rfl (by decide) rfl ?_
  repeat' (first
 | (apply GC_seqK; intro K hK)
 | (apply hK; clear hK K)
 | (apply GC_block)
 | (apply GC_region)
 | (apply GL_nil)
 | (apply thenG_normal)
 | (apply GL_on; eq_refl; eq_refl)
 | (apply G_pv; eq_refl; first | exact trivial | omega)
 | (apply G_field; eq_refl)
 | (apply G_ld; eq_refl; (repeat first | exact In.here | apply In.there | apply In.skip); eq_refl)
 | (apply G_len; eq_refl)
 | (apply G_box; eq_refl; eq_refl; intro _))
  rename_i b2
  refine GC_loopK [1, 2, 12, 13] (fun s : Nat × List (Hdl × List Int) × Option Addr × Nat => [(5, .slice s.2.2.1 s.2.1.length s.2.2.2), (14, nu s.1)]) (fun s => [.any (bun (fam rowJ s.2.1)), .vec encS 1 67 s.2.2.1 s.2.2.2 s.2.1, .box b2 69 (ccells c h), .old w none_])
    (fun s => s.1 ≤ c.latches.length ∧ s.2.1.map (·.2) = (c.latches.take s.1).flatMap (nxtS c.max t)) (fun s => c.latches.length - s.1) (0, [], none, 0) (by repeat first | exact Pick.nil | (apply Pick.cons; eq_refl)) (by repeat first | exact trivial | refine ⟨rfl, ?_⟩) (rows_nil (Wk.nilv (by repeat first | exact Wk.nil | exact Wk.refl | (apply Wk.cons; (focus ((repeat first | exact Rem.here | apply Rem.there | apply Rem.skip); done))) | apply Wk.nilv | apply Wk.last | apply Wk.drop))) ⟨Nat.zero_le _, rfl⟩ ?_
  rintro ⟨i, ps, A, kA⟩ ⟨hi, hps⟩
  dsimp only at hi hps ⊢
  have hpl : ps.length = 2 * i := by
    have := congrArg List.length hps
    rw [List.length_map, flat_eq (fun _ => nxtS_len)] at this
    simp only [List.length_take] at this
    omega
  rcases Nat.lt_or_ge i c.latches.length with hlt | hge
  · obtain ⟨g1, g2, _⟩ := R.lat (gt_mem (l := c.latches) (i := (i : Int)) (by omega) (by omega))
    have g0 : inR c (gt c.latches (i : Int)).1 := g1.in
    have a1 := atM_le (mx := c.max) (t := t + 1) g0.1 (by unfold inR at g0; omega) y0 y1
    have a2 := atM_le (mx := c.max) (t := t) g2.1 (by unfold inR at g2; omega) z0 z1
    have hsn := flat_snoc (f := nxtS c.max t) hlt
    repeat' (first
 | (apply G_call; eq_refl; eq_refl; (first | (apply hat; first | exact g0 | exact g2) | (apply hat2; first | exact g0 | exact g2)); rintro _ _ ⟨rfl, rfl⟩)
 | (apply G_app (enc := encS); (first | exact wr_p | kernel_rfl); eq_refl; eq_refl; (intro A c; (repeat first | exact Upd.here | apply Upd.there | apply Upd.skip)); infer_instance; (repeat first | exact In.here | apply In.there | apply In.skip); (exact (Dec.c1 (a := ((_, _), [-atM c.max (gt c.latches (i : Int)).1 (t + 1), atM c.max (gt c.latches (i : Int)).2.1 t])) rfl (Dec.c1 (a := ((_, _), [atM c.max (gt c.latches (i : Int)).1 (t + 1), -atM c.max (gt c.latches (i : Int)).2.1 t])) rfl Dec.nil))); eq_refl; eq_refl; eq_refl; (simp only [List.length_cons, List.length_nil]; omega); decide; intro A9 k9)
 | (apply GC_seqK; intro K hK)
 | (apply hK; clear hK K)
 | (apply GC_block)
 | (apply GC_region)
 | (apply GL_nil)
 | (apply thenG_normal)
 | (apply blockG_normal)
 | (apply GC_skip)
 | (apply GC_if_true; eq_refl)
 | (apply GL_on; eq_refl; eq_refl)
 | (refine GC_draws (id := 5) [.q 0, .q 1, .q 2, .q 3, .q 4, .q 6, .q 7, .q 8, .q 9, .c 5, .c 10, .q 11, .q 12] mixed (by kernel_rfl) (by kernel_rfl) ?_)
 | (apply GS_nil)
 | (apply GS_qon; eq_refl; eq_refl; eq_refl; eq_refl)
 | (apply GS_con; eq_refl; eq_refl; eq_refl; eq_refl)
 | (apply G_pv; eq_refl; first | exact trivial | omega)
 | (apply G_field; eq_refl)
 | (apply G_ld; eq_refl; (repeat first | exact In.here | apply In.there | apply In.skip); eq_refl)
 | (apply G_ldW; eq_refl; (repeat first | exact In.here | apply In.there | apply In.skip); eq_refl)
 | (apply G_rdW; eq_refl; (first | (apply Rd.own; (repeat first | exact In.here | apply In.there | apply In.skip); infer_instance) | (apply Rd.old; (repeat first | exact In.here | apply In.there | apply In.skip); assumption) | (apply Rd.oldR; (repeat first | exact In.here | apply In.there | apply In.skip); assumption) | exact Rd.nil | assumption); infer_instance; (case ih => infer_instance); omega; omega)
 | (apply G_cmpT; eq_refl; eq_refl; omega)
 | (apply G_ix; eq_refl; eq_refl; (first | (apply Rd.own; (repeat first | exact In.here | apply In.there | apply In.skip); infer_instance) | (apply Rd.old; (repeat first | exact In.here | apply In.there | apply In.skip); assumption) | (apply Rd.oldR; (repeat first | exact In.here | apply In.there | apply In.skip); assumption) | exact Rd.nil | assumption); (first | eq_refl | omega); omega; omega)
 | (apply G_neg; eq_refl; omega; omega)
 | (apply G_alloc; eq_refl; intro _)
 | (apply G_stW; (first | exact wr_p | kernel_rfl); eq_refl; eq_refl; eq_refl; eq_refl; (repeat first | exact Upd.here | apply Upd.there | apply Upd.skip); eq_refl)
 | (apply G_new (fun b => .slice (some ⟨b, 0, none⟩) 2 2); eq_refl; (intro _; apply buildS67_2 <;> eq_refl); intro _)
 | (apply G_new (fun b => .slice (some ⟨b, 0, none⟩) 2 2); eq_refl; (intro _; apply buildS32_2 <;> eq_refl); intro _))
    rename_i b7 c1 c2 c4
    refine ⟨(i + 1, ps ++ [((some ⟨c1, 0, none⟩, 2), [-atM c.max (gt c.latches (i : Int)).1 (t + 1), atM c.max (gt c.latches (i : Int)).2.1 t]), ((some ⟨c2, 0, none⟩, 2), [atM c.max (gt c.latches (i : Int)).1 (t + 1), -atM c.max (gt c.latches (i : Int)).2.1 t])], A9, k9), (by repeat first | exact trivial | refine ⟨rfl, ?_⟩), (by dsimp only; exact Wk.add2 (by repeat first | exact Rem.here | apply Rem.there | apply Rem.skip) (by repeat first | exact Rem.here | apply Rem.there | apply Rem.skip) (by repeat first | exact Rem.here | apply Rem.there | apply Rem.skip) rfl rfl (Nat.le_of_ble_eq_true rfl) (Nat.le_of_ble_eq_true rfl) (by repeat first | exact Wk.nil | exact Wk.refl | (apply Wk.cons; (focus ((repeat first | exact Rem.here | apply Rem.there | apply Rem.skip); done))) | apply Wk.nilv | apply Wk.last | apply Wk.drop)), ⟨hlt, ?_⟩, by simp only; omega⟩
    simp only
    rw [hsn, List.map_append, hps]
    rfl
  · obtain rfl : i = c.latches.length := by omega
    rw [List.take_length] at hps
    repeat' (first
 | (apply GC_seqK; intro K hK)
 | (apply hK; clear hK K)
 | (clear hK K; apply hK; clear hK K)
 | (apply GC_region)
 | (apply GL_nil)
 | (apply thenG_normal)
 | (apply thenG_exit)
 | (apply blockG_hit)
 | (apply GC_ret)
 | (apply GC_exit)
 | (apply GC_if_false; eq_refl)
 | (apply retG1; eq_refl)
 | (apply GL_on; eq_refl; eq_refl)
 | (apply G_pv; eq_refl; first | exact trivial | omega)
 | (apply G_cmpF; eq_refl; eq_refl; omega))
    exact ⟨[.vec encS 1 67 A kA ps, .any (bun (fam rowJ ps))], (by repeat first | exact Wk.nil | exact Wk.refl | (apply Wk.cons; (focus ((repeat first | exact Rem.here | apply Rem.there | apply Rem.skip); done))) | apply Wk.nilv | apply Wk.last | apply Wk.drop), ps, A, kA, rfl, hps, rfl⟩
theorem atM_or {mx l : Int} (h : l % 2 = 0) : atM mx (l + 1) 0 = -atM mx l 0 := by
  unfold atM
  rw [if_pos (by omega), if_neg (by omega : ¬ l % 2 = 1), show (l + 1) / 2 = l / 2 by omega]
theorem firstS_cv {w : World} {c : Circ} {h js : Hd} (R : Right c) (H : CirAt w c h js) : CVN Try.prog 33 [.agg (ccells c h).toArray] w (CliR (firstS c)) := by
  have hLat := H.latches
  have m0 := R.m0
  have m1 := R.m1
  have n3 := R.nLat
  have hat : ∀ Γ l, 0 ≤ l → l ≤ 40000 → ∀ w', Mem w' Γ → CVN Try.prog 43 [.agg (ccells c h).toArray, nu l, nu 0] w' fun v N => N = [] ∧ v = nu (atM c.max l 0) := fun Γ l h0 h1 w' M => at_cv h0 h1 (by omega) (by omega)
  refine CVN.enter 31 [2] Try.func33 rfl rfl rfl (by decide) rfl ?_
  repeat' (first
 | (apply GC_seqK; intro K hK)
 | (apply hK; clear hK K)
 | (apply GC_block)
 | (apply GC_region)
 | (apply GL_nil)
 | (apply thenG_normal)
 | (apply GL_on; eq_refl; eq_refl)
 | (apply G_pv; eq_refl; first | exact trivial | omega)
 | (apply G_field; eq_refl)
 | (apply G_ld; eq_refl; (repeat first | exact In.here | apply In.there | apply In.skip); eq_refl)
 | (apply G_len; eq_refl)
 | (apply G_box; eq_refl; eq_refl; intro _))
  rename_i b2
  refine GC_loopK [1, 8, 9] (fun s : Nat × List (Hdl × List Int) × Option Addr × Nat => [(3, .slice s.2.2.1 s.2.1.length s.2.2.2), (10, nu s.1)]) (fun s => [.any (bun (fam rowJ s.2.1)), .vec encS 1 67 s.2.2.1 s.2.2.2 s.2.1, .box b2 69 (ccells c h), .old w none_])
    (fun s => s.1 ≤ c.latches.length ∧ s.2.1.map (·.2) = (c.latches.take s.1).flatMap (rstS c.max)) (fun s => c.latches.length - s.1) (0, [], none, 0) (by repeat first | exact Pick.nil | (apply Pick.cons; eq_refl)) (by repeat first | exact trivial | refine ⟨rfl, ?_⟩) (rows_nil (Wk.nilv (by repeat first | exact Wk.nil | exact Wk.refl | (apply Wk.cons; (focus ((repeat first | exact Rem.here | apply Rem.there | apply Rem.skip); done))) | apply Wk.nilv | apply Wk.last | apply Wk.drop))) ⟨Nat.zero_le _, rfl⟩ ?_
  rintro ⟨i, ps, A, kA⟩ ⟨hi, hps⟩
  dsimp only at hi hps ⊢
  have hpl : ps.length ≤ i := by
    have h1 := congrArg List.length hps
    have h2 := flat_le (f := rstS c.max) (fun _ => rstS_len) (c.latches.take i)
    rw [List.length_map] at h1
    simp only [List.length_take] at h2
    omega
  rcases Nat.lt_or_ge i c.latches.length with hlt | hge
  · obtain ⟨g1, g2, g3⟩ := R.lat (gt_mem (l := c.latches) (i := (i : Int)) (by omega) (by omega))
    unfold defR at g1
    have hsn := flat_snoc (f := rstS c.max) hlt
    have hor : atM c.max ((gt c.latches (i : Int)).1 + 1) 0 = -atM c.max (gt c.latches (i : Int)).1 0 := atM_or g1.2.2
    by_cases hr : (gt c.latches (i : Int)).2.2 < 2
    · by_cases h0 : (gt c.latches (i : Int)).2.2 = 0
      · have er : rstS c.max (gt c.latches (i : Int)) = [[-atM c.max (gt c.latches (i : Int)).1 0]] := if_pos h0
        have ha : ∀ Γ, ∀ w', Mem w' Γ → CVN Try.prog 43 [.agg (ccells c h).toArray, nu ((gt c.latches (i : Int)).1 + (1 - (gt c.latches (i : Int)).2.2)), nu 0] w' fun v N => N = [] ∧ v = nu (-atM c.max (gt c.latches (i : Int)).1 0) := fun Γ w' M => by
          have := hat Γ ((gt c.latches (i : Int)).1 + (1 - (gt c.latches (i : Int)).2.2)) (by omega) (by omega) w' M
          rw [show (gt c.latches (i : Int)).1 + (1 - (gt c.latches (i : Int)).2.2) = (gt c.latches (i : Int)).1 + 1 by omega, hor] at this
          rw [show (gt c.latches (i : Int)).1 + (1 - (gt c.latches (i : Int)).2.2) = (gt c.latches (i : Int)).1 + 1 by omega]
          exact this
        repeat' (first
 | (apply G_call; eq_refl; eq_refl; (apply ha); rintro _ _ ⟨rfl, rfl⟩)
 | (apply GX_pure; apply p_or01; eq_refl; eq_refl; omega; omega; omega; omega; omega)
 | (apply G_app (enc := encS); (first | exact wr_p | kernel_rfl); eq_refl; eq_refl; (intro A c; (repeat first | exact Upd.here | apply Upd.there | apply Upd.skip)); infer_instance; (repeat first | exact In.here | apply In.there | apply In.skip); (exact (Dec.c1 (a := ((_, _), [-atM c.max (gt c.latches (i : Int)).1 0])) rfl Dec.nil)); eq_refl; eq_refl; eq_refl; (simp only [List.length_cons, List.length_nil]; omega); decide; intro A9 k9)
 | (apply GC_seqK; intro K hK)
 | (apply hK; clear hK K)
 | (apply GC_block)
 | (apply GC_region)
 | (apply GL_nil)
 | (apply thenG_normal)
 | (apply blockG_normal)
 | (apply GC_skip)
 | (apply GC_if_true; eq_refl)
 | (apply GL_on; eq_refl; eq_refl)
 | (apply G_pv; eq_refl; first | exact trivial | omega)
 | (apply G_field; eq_refl)
 | (apply G_ld; eq_refl; (repeat first | exact In.here | apply In.there | apply In.skip); eq_refl)
 | (apply G_ldW; eq_refl; (repeat first | exact In.here | apply In.there | apply In.skip); eq_refl)
 | (apply G_rdW; eq_refl; (first | (apply Rd.own; (repeat first | exact In.here | apply In.there | apply In.skip); infer_instance) | (apply Rd.old; (repeat first | exact In.here | apply In.there | apply In.skip); assumption) | (apply Rd.oldR; (repeat first | exact In.here | apply In.there | apply In.skip); assumption) | exact Rd.nil | assumption); infer_instance; (case ih => infer_instance); omega; omega)
 | (apply G_cmpT; eq_refl; eq_refl; omega)
 | (apply G_ix; eq_refl; eq_refl; (first | (apply Rd.own; (repeat first | exact In.here | apply In.there | apply In.skip); infer_instance) | (apply Rd.old; (repeat first | exact In.here | apply In.there | apply In.skip); assumption) | (apply Rd.oldR; (repeat first | exact In.here | apply In.there | apply In.skip); assumption) | exact Rd.nil | assumption); (first | eq_refl | omega); omega; omega)
 | (apply G_alloc; eq_refl; intro _)
 | (apply G_stW; (first | exact wr_p | kernel_rfl); eq_refl; eq_refl; eq_refl; eq_refl; (repeat first | exact Upd.here | apply Upd.there | apply Upd.skip); eq_refl)
 | (apply G_new (fun b => .slice (some ⟨b, 0, none⟩) 1 1); eq_refl; (intro _; apply buildS67_1 <;> eq_refl); intro _)
 | (apply G_new (fun b => .slice (some ⟨b, 0, none⟩) 1 1); eq_refl; (intro _; apply buildS32_1 <;> eq_refl); intro _))
        rename_i b5 c1 c4
        refine ⟨(i + 1, ps ++ [((some ⟨c1, 0, none⟩, 1), [-atM c.max (gt c.latches (i : Int)).1 0])], A9, k9), (by repeat first | exact trivial | refine ⟨rfl, ?_⟩), (by dsimp only; exact Wk.add1 (by repeat first | exact Rem.here | apply Rem.there | apply Rem.skip) (by repeat first | exact Rem.here | apply Rem.there | apply Rem.skip) rfl (Nat.le_of_ble_eq_true rfl) (by repeat first | exact Wk.nil | exact Wk.refl | (apply Wk.cons; (focus ((repeat first | exact Rem.here | apply Rem.there | apply Rem.skip); done))) | apply Wk.nilv | apply Wk.last | apply Wk.drop)), ⟨hlt, ?_⟩, by simp only; omega⟩
        simp only
        rw [hsn, List.map_append, hps, er]
        rfl
      · have h1 : (gt c.latches (i : Int)).2.2 = 1 := by omega
        have er : rstS c.max (gt c.latches (i : Int)) = [[atM c.max (gt c.latches (i : Int)).1 0]] := by
          unfold rstS
          rw [if_neg h0, if_pos h1]
        have ha : ∀ Γ, ∀ w', Mem w' Γ → CVN Try.prog 43 [.agg (ccells c h).toArray, nu ((gt c.latches (i : Int)).1 + (1 - (gt c.latches (i : Int)).2.2)), nu 0] w' fun v N => N = [] ∧ v = nu (atM c.max (gt c.latches (i : Int)).1 0) := fun Γ w' M => by
          have := hat Γ ((gt c.latches (i : Int)).1 + (1 - (gt c.latches (i : Int)).2.2)) (by omega) (by omega) w' M
          rw [show (gt c.latches (i : Int)).1 + (1 - (gt c.latches (i : Int)).2.2) = (gt c.latches (i : Int)).1 by omega] at this
          rw [show (gt c.latches (i : Int)).1 + (1 - (gt c.latches (i : Int)).2.2) = (gt c.latches (i : Int)).1 by omega]
          exact this
        repeat' (first
 | (apply G_call; eq_refl; eq_refl; (apply ha); rintro _ _ ⟨rfl, rfl⟩)
 | (apply GX_pure; apply p_or01; eq_refl; eq_refl; omega; omega; omega; omega; omega)
 | (apply G_app (enc := encS); (first | exact wr_p | kernel_rfl); eq_refl; eq_refl; (intro A c; (repeat first | exact Upd.here | apply Upd.there | apply Upd.skip)); infer_instance; (repeat first | exact In.here | apply In.there | apply In.skip); (exact (Dec.c1 (a := ((_, _), [atM c.max (gt c.latches (i : Int)).1 0])) rfl Dec.nil)); eq_refl; eq_refl; eq_refl; (simp only [List.length_cons, List.length_nil]; omega); decide; intro A9 k9)
 | (apply GC_seqK; intro K hK)
 | (apply hK; clear hK K)
 | (apply GC_block)
 | (apply GC_region)
 | (apply GL_nil)
 | (apply thenG_normal)
 | (apply blockG_normal)
 | (apply GC_skip)
 | (apply GC_if_true; eq_refl)
 | (apply GL_on; eq_refl; eq_refl)
 | (apply G_pv; eq_refl; first | exact trivial | omega)
 | (apply G_field; eq_refl)
 | (apply G_ld; eq_refl; (repeat first | exact In.here | apply In.there | apply In.skip); eq_refl)
 | (apply G_ldW; eq_refl; (repeat first | exact In.here | apply In.there | apply In.skip); eq_refl)
 | (apply G_rdW; eq_refl; (first | (apply Rd.own; (repeat first | exact In.here | apply In.there | apply In.skip); infer_instance) | (apply Rd.old; (repeat first | exact In.here | apply In.there | apply In.skip); assumption) | (apply Rd.oldR; (repeat first | exact In.here | apply In.there | apply In.skip); assumption) | exact Rd.nil | assumption); infer_instance; (case ih => infer_instance); omega; omega)
 | (apply G_cmpT; eq_refl; eq_refl; omega)
 | (apply G_ix; eq_refl; eq_refl; (first | (apply Rd.own; (repeat first | exact In.here | apply In.there | apply In.skip); infer_instance) | (apply Rd.old; (repeat first | exact In.here | apply In.there | apply In.skip); assumption) | (apply Rd.oldR; (repeat first | exact In.here | apply In.there | apply In.skip); assumption) | exact Rd.nil | assumption); (first | eq_refl | omega); omega; omega)
 | (apply G_alloc; eq_refl; intro _)
 | (apply G_stW; (first | exact wr_p | kernel_rfl); eq_refl; eq_refl; eq_refl; eq_refl; (repeat first | exact Upd.here | apply Upd.there | apply Upd.skip); eq_refl)
 | (apply G_new (fun b => .slice (some ⟨b, 0, none⟩) 1 1); eq_refl; (intro _; apply buildS67_1 <;> eq_refl); intro _)
 | (apply G_new (fun b => .slice (some ⟨b, 0, none⟩) 1 1); eq_refl; (intro _; apply buildS32_1 <;> eq_refl); intro _))
        rename_i b5 c1 c4
        refine ⟨(i + 1, ps ++ [((some ⟨c1, 0, none⟩, 1), [atM c.max (gt c.latches (i : Int)).1 0])], A9, k9), (by repeat first | exact trivial | refine ⟨rfl, ?_⟩), (by dsimp only; exact Wk.add1 (by repeat first | exact Rem.here | apply Rem.there | apply Rem.skip) (by repeat first | exact Rem.here | apply Rem.there | apply Rem.skip) rfl (Nat.le_of_ble_eq_true rfl) (by repeat first | exact Wk.nil | exact Wk.refl | (apply Wk.cons; (focus ((repeat first | exact Rem.here | apply Rem.there | apply Rem.skip); done))) | apply Wk.nilv | apply Wk.last | apply Wk.drop)), ⟨hlt, ?_⟩, by simp only; omega⟩
        simp only
        rw [hsn, List.map_append, hps, er]
        rfl
    · have er : rstS c.max (gt c.latches (i : Int)) = [] := by
        unfold rstS
        rw [if_neg (by omega), if_neg (by omega)]
      repeat' (first
 | (apply GC_seqK; intro K hK)
 | (apply hK; clear hK K)
 | (apply GC_block)
 | (apply GC_region)
 | (apply GL_nil)
 | (apply thenG_normal)
 | (apply blockG_normal)
 | (apply GC_skip)
 | (apply GC_if_true; eq_refl)
 | (apply GC_if_false; eq_refl)
 | (apply GL_on; eq_refl; eq_refl)
 | (apply G_pv; eq_refl; first | exact trivial | omega)
 | (apply G_field; eq_refl)
 | (apply G_ld; eq_refl; (repeat first | exact In.here | apply In.there | apply In.skip); eq_refl)
 | (apply G_rdW; eq_refl; (first | (apply Rd.own; (repeat first | exact In.here | apply In.there | apply In.skip); infer_instance) | (apply Rd.old; (repeat first | exact In.here | apply In.there | apply In.skip); assumption) | (apply Rd.oldR; (repeat first | exact In.here | apply In.there | apply In.skip); assumption) | exact Rd.nil | assumption); infer_instance; (case ih => infer_instance); omega; omega)
 | (apply G_cmpT; eq_refl; eq_refl; omega)
 | (apply G_cmpF; eq_refl; eq_refl; omega)
 | (apply G_ix; eq_refl; eq_refl; (first | (apply Rd.own; (repeat first | exact In.here | apply In.there | apply In.skip); infer_instance) | (apply Rd.old; (repeat first | exact In.here | apply In.there | apply In.skip); assumption) | (apply Rd.oldR; (repeat first | exact In.here | apply In.there | apply In.skip); assumption) | exact Rd.nil | assumption); (first | eq_refl | omega); omega; omega)
 | (apply G_alloc; eq_refl; intro _)
 | (apply G_stW; (first | exact wr_p | kernel_rfl); eq_refl; eq_refl; eq_refl; eq_refl; (repeat first | exact Upd.here | apply Upd.there | apply Upd.skip); eq_refl))
      refine ⟨(i + 1, ps, A, kA), (by repeat first | exact trivial | refine ⟨rfl, ?_⟩), (by repeat first | exact Wk.nil | exact Wk.refl | (apply Wk.cons; (focus ((repeat first | exact Rem.here | apply Rem.there | apply Rem.skip); done))) | apply Wk.nilv | apply Wk.last | apply Wk.drop), ⟨hlt, ?_⟩, by simp only; omega⟩
      simp only
      rw [hsn, hps, er, List.append_nil]
  · obtain rfl : i = c.latches.length := by omega
    rw [List.take_length] at hps
    repeat' (first
 | (apply GC_seqK; intro K hK)
 | (apply hK; clear hK K)
 | (clear hK K; apply hK; clear hK K)
 | (apply GC_region)
 | (apply GL_nil)
 | (apply thenG_normal)
 | (apply thenG_exit)
 | (apply blockG_hit)
 | (apply GC_ret)
 | (apply GC_exit)
 | (apply GC_if_false; eq_refl)
 | (apply retG1; eq_refl)
 | (apply GL_on; eq_refl; eq_refl)
 | (apply G_pv; eq_refl; first | exact trivial | omega)
 | (apply G_cmpF; eq_refl; eq_refl; omega))
    exact ⟨[.vec encS 1 67 A kA ps, .any (bun (fam rowJ ps))], (by repeat first | exact Wk.nil | exact Wk.refl | (apply Wk.cons; (focus ((repeat first | exact Rem.here | apply Rem.there | apply Rem.skip); done))) | apply Wk.nilv | apply Wk.last | apply Wk.drop), ps, A, kA, rfl, hps, rfl⟩
end SC
end Go.Proofs.Ytbmngkdnebklpaa
end
section
/- trestleref16: Step0, Next0, First0: the walks. -/
set_option linter.unusedVariables false
set_option linter.unusedSimpArgs false
namespace Go.Proofs.Ytbmngkdnebklpaa
namespace SC
open Go.Proofs
attribute [local irreducible] WC WL WX WS WO OX Does DoesU Enters CV Pure thenQ blockQ retQ Wants retQC GC GL GS GX RdB thenG blockG retG Rd At gt CVN CVM
set_option maxRecDepth 100000
end SC
end Go.Proofs.Ytbmngkdnebklpaa
end
section
/- frames: vars, ready, looked, many, step: the walks. -/
set_option linter.unusedVariables false
set_option linter.unusedSimpArgs false
namespace Go.Proofs.Ytbmngkdnebklpaa
namespace SC
open Go.Proofs
theorem ftE_look {c : Circ} {t most n : Int} (h : (lookM c).2 ≠ 0) : ftE c t most n = (lookM c).2 := if_pos h
theorem ftE_rg {c : Circ} {t most n : Int} (h : (lookM c).2 = 0) (h2 : t < 0 ∨ most < t) : ftE c t most n = 1 := by unfold ftE; rw [if_neg (by omega), if_pos h2]
theorem ftE_sz {c : Circ} {t most n : Int} (h : (lookM c).2 = 0) (h2 : ¬ (t < 0 ∨ most < t)) (h3 : 262144 < 1 + n * c.max) : ftE c t most n = 6 := by unfold ftE; rw [if_neg (by omega), if_neg h2, if_pos h3]
theorem ftE_ok {c : Circ} {t most n : Int} (h : (lookM c).2 = 0) (h2 : ¬ (t < 0 ∨ most < t)) (h3 : ¬ 262144 < 1 + n * c.max) : ftE c t most n = 0 := by unfold ftE; rw [if_neg (by omega), if_neg h2, if_neg h3]
theorem ftE_zero {c : Circ} {t most n : Int} (h : ftE c t most n = 0) : (lookM c).2 = 0 ∧ 0 ≤ t ∧ t ≤ most ∧ 1 + n * c.max ≤ 262144 := by
  unfold ftE at h
  split at h
  · exact absurd h (by assumption)
  · split at h
    · cases h
    · split at h
      · cases h
      · exact ⟨by omega, by omega, by omega, by omega⟩
theorem ftE_n {c : Circ} {t most : Int} (n m : Int) (h : t < 0 ∨ most < t) : ftE c t most n = ftE c t most m := by
  by_cases he : (lookM c).2 = 0
  · rw [ftE_rg he h, ftE_rg he h]
  · rw [ftE_look he, ftE_look he]
section
variable {P : Program} {n : Nat} {all : List Oper} {K : Env → Mm → Prop} {m : Md} {e : Env} {Γ : Mm} {d : Option Tmp} {ty t t' elem : TypeId} {x y : Operand} {w : World} {td : TypeDesc} {by_ : Nat} {zv v : Value}
theorem does_index {k : Nat} {i : Int} {ik : IntKind} {cs : Array Value} [T : Ty P elem td 1 zv by_ false] (hu : P.underlying t = some (.array k elem)) (h : ev e x = some (.agg cs)) (h1 : ev e y = some (.int ik i)) (h0 : 0 ≤ i) (hk : i < k) (hv : cs[i.toNat]? = some v) : Does P (.index t x y) ty e w v w := by
  intro ρ dst pos af g hρ
  simp [execOp, hρ _ _ h, hρ _ _ h1, Instr.index, asIntOf, run_underlying hu, h0, hk, Go.part, T.size, T.agg, hv]
theorem G_index {k : Nat} {i : Int} {ik : IntKind} {cs : Array Value} [T : Ty P elem td 1 zv by_ false] (hu : P.underlying t = some (.array k elem)) (h : ev e x = some (.agg cs)) (h1 : ev e y = some (.int ik i)) (h0 : 0 ≤ i) (hk : i < k) (hv : cs[i.toNat]? = some v) (hr : GN P n all K m (push d v e) Γ) : GX P n all K m d (.index t x y) ty e Γ := GX_pure (fun _ => does_index hu h h1 h0 hk hv) hr
theorem G_addW {a b : Int} (h : ev e x = some (.int .i64 a)) (h1 : ev e y = some (.int .i64 b)) (hr : GN P n all K m (push d (nu (IntKind.i64.wrap (a + b))) e) Γ) : GX P n all K m d (.binOp .add t x y t') ty e Γ := GX_pure (fun _ => does_addW h h1) hr
end
attribute [local irreducible] WC WL WX WS WO OX Does DoesU Enters CV Pure thenQ blockQ retQ Wants retQC GC GL GS GX RdB thenG blockG retG Rd At gt CVN CVM
set_option maxRecDepth 100000
theorem vars_cv {w : World} {c : Circ} {h : Hd} {n : Int} (z0 : 0 ≤ n * c.max) (z1 : n * c.max ≤ 10000000) : CVN Try.prog 54 [.agg (ccells c h).toArray, nu n] w fun v N => N = [] ∧ v = nu (1 + n * c.max) := by
  refine CVN.enter 11 [4] Try.func54 rfl rfl rfl (by decide) rfl ?_
  repeat' (first
 | (apply GC_seqK; intro K hK)
 | (apply hK; clear hK K)
 | (apply GC_region)
 | (apply GL_nil)
 | (apply thenG_normal)
 | (apply GC_ret)
 | (apply retG1; eq_refl)
 | (apply GL_on; eq_refl; eq_refl)
 | (apply G_pv; eq_refl; first | exact trivial | omega)
 | (apply G_field; eq_refl)
 | (apply G_ld; eq_refl; (repeat first | exact In.here | apply In.there | apply In.skip); eq_refl)
 | (apply G_box; eq_refl; eq_refl; intro _))
  exact ⟨[], (by repeat first | exact Wk.nil | exact Wk.refl | (apply Wk.cons; (focus ((repeat first | exact Rem.here | apply Rem.there | apply Rem.skip); done))) | apply Wk.nilv | apply Wk.last | apply Wk.drop), rfl, rfl⟩
theorem ready16_cv {w : World} {c : Circ} {h js : Hd} (H : CirIn w c h js) : CVN Try.prog 47 [.agg (ccells c h).toArray] w fun v N => N = [] ∧ v = .tuple #[.agg (ccells c h).toArray, nu (lookM c).2] := by
  have hck : ∀ Γ, In Γ (.old w none_) → ∀ w', Mem w' Γ → CVN Try.prog 68 [.agg (ccells c h).toArray] w' fun v N => N = [] ∧ v = .tuple #[nu (lookM c).1, nu (lookM c).2] := fun Γ hi w' M => have H' := H.chg (hi.old M); CVN.of (check_cv H'.at_ H'.sane) fun v w' h => ⟨h.2, h.1⟩
  generalize (lookM c).1 = n0 at *
  generalize (lookM c).2 = ε at *
  refine CVN.enterC1 (t := 69) 14 2 3 Try.func47 rfl rfl rfl rfl ?_
  repeat' (first
 | (apply G_call; eq_refl; eq_refl; (apply hck; (repeat first | exact In.here | apply In.there | apply In.skip)); rintro _ _ ⟨rfl, rfl⟩)
 | (apply GC_seqK; intro K hK)
 | (apply hK; clear hK K)
 | (apply GC_region)
 | (apply GL_nil)
 | (apply thenG_normal)
 | (apply GC_ret)
 | (apply retGC1r; eq_refl; (repeat first | exact In.here | apply In.there | apply In.skip); eq_refl; eq_refl)
 | (apply GL_on; eq_refl; eq_refl)
 | (apply G_pv; eq_refl; first | exact trivial | omega)
 | (apply G_ldW; eq_refl; (repeat first | exact In.here | apply In.there | apply In.skip); eq_refl)
 | (apply G_alloc; eq_refl; intro _)
 | (apply G_box; eq_refl; eq_refl; intro _)
 | (apply G_stW; (first | exact wr_p | kernel_rfl); eq_refl; eq_refl; eq_refl; eq_refl; (repeat first | exact Upd.here | apply Upd.there | apply Upd.skip); eq_refl)
 | (apply GX_pure; apply build69_0 <;> eq_refl))
  exact ⟨[], (by repeat first | exact Wk.nil | exact Wk.refl | (apply Wk.cons; (focus ((repeat first | exact Rem.here | apply Rem.there | apply Rem.skip); done))) | apply Wk.nilv | apply Wk.last | apply Wk.drop), rfl, rfl⟩
theorem looked_cv {w : World} {c : Circ} {h js : Hd} {t most n : Int} (H : CirIn w c h js) (hn : 0 ≤ t → t ≤ most → 0 ≤ n ∧ n ≤ 600) : CVN Try.prog 36 [.agg (ccells c h).toArray, nu t, nu most, nu n] w fun v N => N = [] ∧ v = .tuple #[.agg (ccells c h).toArray, nu (ftE c t most n)] := by
  have hrd : ∀ Γ, In Γ (.old w none_) → ∀ w', Mem w' Γ → CVN Try.prog 47 [.agg (ccells c h).toArray] w' _ := fun Γ hi w' M => ready16_cv (H.chg (hi.old M))
  refine CVN.enterC1 (t := 69) 38 8 9 Try.func36 rfl rfl rfl rfl ?_
  by_cases he : (lookM c).2 = 0
  · have R := right_of H.at_ H.sane he
    have m0 := R.m0
    have m1 := R.m1
    rw [he] at hrd
    by_cases hr : t < 0 ∨ most < t
    · rw [ftE_rg he hr]
      by_cases h0 : t < 0
      · repeat' (first
 | (apply G_call; eq_refl; eq_refl; (apply hrd; (repeat first | exact In.here | apply In.there | apply In.skip)); rintro _ _ ⟨rfl, rfl⟩)
 | (apply GC_seqK; intro K hK)
 | (apply hK; clear hK K)
 | (apply GC_block)
 | (apply GC_region)
 | (apply GL_nil)
 | (apply thenG_normal)
 | (apply thenG_ret)
 | (apply blockG_ret)
 | (apply GC_ret)
 | (apply GC_if_true; eq_refl)
 | (apply GC_if_false; eq_refl)
 | (apply retGC1r; eq_refl; (repeat first | exact In.here | apply In.there | apply In.skip); eq_refl; eq_refl)
 | (apply GL_on; eq_refl; eq_refl)
 | (apply GL_off; eq_refl; eq_refl)
 | (apply G_pv; eq_refl; first | exact trivial | omega)
 | (apply G_ldW; eq_refl; (repeat first | exact In.here | apply In.there | apply In.skip); eq_refl)
 | (apply G_cmpT; eq_refl; eq_refl; omega)
 | (apply G_cmpF; eq_refl; eq_refl; omega)
 | (apply G_alloc; eq_refl; intro _)
 | (apply G_box; eq_refl; eq_refl; intro _)
 | (apply G_stW; (first | exact wr_p | kernel_rfl); eq_refl; eq_refl; eq_refl; eq_refl; (repeat first | exact Upd.here | apply Upd.there | apply Upd.skip); eq_refl))
        exact ⟨[], (by repeat first | exact Wk.nil | exact Wk.refl | (apply Wk.cons; (focus ((repeat first | exact Rem.here | apply Rem.there | apply Rem.skip); done))) | apply Wk.nilv | apply Wk.last | apply Wk.drop), rfl, rfl⟩
      · repeat' (first
 | (apply G_call; eq_refl; eq_refl; (apply hrd; (repeat first | exact In.here | apply In.there | apply In.skip)); rintro _ _ ⟨rfl, rfl⟩)
 | (apply GC_seqK; intro K hK)
 | (apply hK; clear hK K)
 | (apply GC_block)
 | (apply GC_region)
 | (apply GL_nil)
 | (apply thenG_normal)
 | (apply thenG_ret)
 | (apply blockG_ret)
 | (apply GC_ret)
 | (apply GC_if_true; eq_refl)
 | (apply GC_if_false; eq_refl)
 | (apply retGC1r; eq_refl; (repeat first | exact In.here | apply In.there | apply In.skip); eq_refl; eq_refl)
 | (apply GL_on; eq_refl; eq_refl)
 | (apply G_pv; eq_refl; first | exact trivial | omega)
 | (apply G_ldW; eq_refl; (repeat first | exact In.here | apply In.there | apply In.skip); eq_refl)
 | (apply G_cmpT; eq_refl; eq_refl; omega)
 | (apply G_cmpF; eq_refl; eq_refl; omega)
 | (apply G_alloc; eq_refl; intro _)
 | (apply G_box; eq_refl; eq_refl; intro _)
 | (apply G_stW; (first | exact wr_p | kernel_rfl); eq_refl; eq_refl; eq_refl; eq_refl; (repeat first | exact Upd.here | apply Upd.there | apply Upd.skip); eq_refl))
        exact ⟨[], (by repeat first | exact Wk.nil | exact Wk.refl | (apply Wk.cons; (focus ((repeat first | exact Rem.here | apply Rem.there | apply Rem.skip); done))) | apply Wk.nilv | apply Wk.last | apply Wk.drop), rfl, rfl⟩
    · obtain ⟨n0, n1⟩ := hn (by omega) (by omega)
      obtain ⟨z0, z1⟩ := mul_le n0 n1 m0 m1
      have hv : ∀ Γ, ∀ w', Mem w' Γ → CVN Try.prog 54 [.agg (ccells c h).toArray, nu n] w' _ := fun Γ w' M => vars_cv (h := h) z0 z1
      by_cases hs : 262144 < 1 + n * c.max
      · rw [ftE_sz he hr hs]
        repeat' (first
 | (apply G_call; eq_refl; eq_refl; (apply hrd; (repeat first | exact In.here | apply In.there | apply In.skip)); rintro _ _ ⟨rfl, rfl⟩)
 | (apply G_call; eq_refl; eq_refl; (apply hv); rintro _ _ ⟨rfl, rfl⟩)
 | (apply GC_seqK; intro K hK)
 | (apply hK; clear hK K)
 | (apply GC_block)
 | (apply GC_region)
 | (apply GL_nil)
 | (apply thenG_normal)
 | (apply thenG_ret)
 | (apply blockG_ret)
 | (apply GC_ret)
 | (apply GC_if_true; eq_refl)
 | (apply GC_if_false; eq_refl)
 | (apply retGC1r; eq_refl; (repeat first | exact In.here | apply In.there | apply In.skip); eq_refl; eq_refl)
 | (apply GL_on; eq_refl; eq_refl)
 | (apply G_pv; eq_refl; first | exact trivial | omega)
 | (apply G_ldW; eq_refl; (repeat first | exact In.here | apply In.there | apply In.skip); eq_refl)
 | (apply G_cmpT; eq_refl; eq_refl; omega)
 | (apply G_cmpF; eq_refl; eq_refl; omega)
 | (apply G_alloc; eq_refl; intro _)
 | (apply G_box; eq_refl; eq_refl; intro _)
 | (apply G_stW; (first | exact wr_p | kernel_rfl); eq_refl; eq_refl; eq_refl; eq_refl; (repeat first | exact Upd.here | apply Upd.there | apply Upd.skip); eq_refl))
        exact ⟨[], (by repeat first | exact Wk.nil | exact Wk.refl | (apply Wk.cons; (focus ((repeat first | exact Rem.here | apply Rem.there | apply Rem.skip); done))) | apply Wk.nilv | apply Wk.last | apply Wk.drop), rfl, rfl⟩
      · rw [ftE_ok he hr hs]
        repeat' (first
 | (apply G_call; eq_refl; eq_refl; (apply hrd; (repeat first | exact In.here | apply In.there | apply In.skip)); rintro _ _ ⟨rfl, rfl⟩)
 | (apply G_call; eq_refl; eq_refl; (apply hv); rintro _ _ ⟨rfl, rfl⟩)
 | (apply GC_seqK; intro K hK)
 | (apply hK; clear hK K)
 | (apply GC_block)
 | (apply GC_region)
 | (apply GL_nil)
 | (apply thenG_normal)
 | (apply blockG_normal)
 | (apply GC_ret)
 | (apply GC_skip)
 | (apply GC_if_false; eq_refl)
 | (apply retGC1r; eq_refl; (repeat first | exact In.here | apply In.there | apply In.skip); eq_refl; eq_refl)
 | (apply GL_on; eq_refl; eq_refl)
 | (apply G_pv; eq_refl; first | exact trivial | omega)
 | (apply G_ldW; eq_refl; (repeat first | exact In.here | apply In.there | apply In.skip); eq_refl)
 | (apply G_cmpF; eq_refl; eq_refl; omega)
 | (apply G_alloc; eq_refl; intro _)
 | (apply G_box; eq_refl; eq_refl; intro _)
 | (apply G_stW; (first | exact wr_p | kernel_rfl); eq_refl; eq_refl; eq_refl; eq_refl; (repeat first | exact Upd.here | apply Upd.there | apply Upd.skip); eq_refl))
        exact ⟨[], (by repeat first | exact Wk.nil | exact Wk.refl | (apply Wk.cons; (focus ((repeat first | exact Rem.here | apply Rem.there | apply Rem.skip); done))) | apply Wk.nilv | apply Wk.last | apply Wk.drop), rfl, rfl⟩
  · rw [ftE_look he]
    generalize (lookM c).2 = ε at *
    repeat' (first
 | (apply G_call; eq_refl; eq_refl; (apply hrd; (repeat first | exact In.here | apply In.there | apply In.skip)); rintro _ _ ⟨rfl, rfl⟩)
 | (apply GC_seqK; intro K hK)
 | (apply hK; clear hK K)
 | (apply GC_block)
 | (apply GC_region)
 | (apply GL_nil)
 | (apply thenG_normal)
 | (apply thenG_ret)
 | (apply blockG_ret)
 | (apply GC_ret)
 | (apply GC_if_true; eq_refl)
 | (apply retGC1r; eq_refl; (repeat first | exact In.here | apply In.there | apply In.skip); eq_refl; eq_refl)
 | (apply GL_on; eq_refl; eq_refl)
 | (apply G_pv; eq_refl; first | exact trivial | omega)
 | (apply G_ldW; eq_refl; (repeat first | exact In.here | apply In.there | apply In.skip); eq_refl)
 | (apply G_cmpT; eq_refl; eq_refl; omega)
 | (apply G_alloc; eq_refl; intro _)
 | (apply G_box; eq_refl; eq_refl; intro _)
 | (apply G_stW; (first | exact wr_p | kernel_rfl); eq_refl; eq_refl; eq_refl; eq_refl; (repeat first | exact Upd.here | apply Upd.there | apply Upd.skip); eq_refl))
    exact ⟨[], (by repeat first | exact Wk.nil | exact Wk.refl | (apply Wk.cons; (focus ((repeat first | exact Rem.here | apply Rem.there | apply Rem.skip); done))) | apply Wk.nilv | apply Wk.last | apply Wk.drop), rfl, rfl⟩
theorem stepF_cv {w : World} {c : Circ} {h js : Hd} {t : Int} (R : Right c) (H : CirAt w c h js) (t0 : 0 ≤ t) (t1 : t ≤ 600) : CVN Try.prog 34 [.agg (ccells c h).toArray, nu t] w (CliR (stepS c t)) := by
  have n3 := R.nAnd
  have n4 := R.nCon
  have lg := gatesS_len c t
  have lc := consS_len c t
  have hg : ∀ Γ, In Γ (.old w none_) → ∀ w', Mem w' Γ → CVN Try.prog 62 ([.agg (ccells c h).toArray, nu t] ++ (#[] : Array Value).toList) w' _ := fun Γ hi w' M => gatesS_cv R (H.chg (hi.old M)) t0 t1
  have hc : ∀ Γ, In Γ (.old w none_) → ∀ w', Mem w' Γ → CVN Try.prog 63 ([.agg (ccells c h).toArray, nu t] ++ (#[] : Array Value).toList) w' _ := fun Γ hi w' M => consS_cv R (H.chg (hi.old M)) t0 t1
  refine CVN.enter 20 [4] Try.func34 rfl rfl rfl (by decide) rfl ?_
  repeat' (first
 | (apply GC_seqK; intro K hK)
 | (apply hK; clear hK K)
 | (apply GC_block)
 | (apply GC_region)
 | (apply GL_nil)
 | (apply thenG_normal)
 | (apply GL_on; eq_refl; eq_refl)
 | (apply G_pv; eq_refl; first | exact trivial | omega)
 | (apply G_box; eq_refl; eq_refl; intro _)
 | (apply GX_pure; apply build103_0_1 <;> eq_refl))
  rename_i b2
  refine GC_loopK [1, 2, 8] (fun s : Nat × List (Hdl × List Int) × Option Addr × Nat => [(5, .slice s.2.2.1 s.2.1.length s.2.2.2), (9, nu s.1)]) (fun s => [.any (bun (fam rowJ s.2.1)), .vec encS 1 67 s.2.2.1 s.2.2.2 s.2.1, .box b2 69 (ccells c h), .old w none_])
    (fun s => s.1 ≤ 2 ∧ s.2.1.map (·.2) = (if s.1 = 0 then [] else if s.1 = 1 then gatesS c t else stepS c t)) (fun s => 2 - s.1) (0, [], none, 0) (by repeat first | exact Pick.nil | (apply Pick.cons; eq_refl)) (by repeat first | exact trivial | refine ⟨rfl, ?_⟩) (rows_nil (Wk.nilv (by repeat first | exact Wk.nil | exact Wk.refl | (apply Wk.cons; (focus ((repeat first | exact Rem.here | apply Rem.there | apply Rem.skip); done))) | apply Wk.nilv | apply Wk.last | apply Wk.drop))) ⟨Nat.zero_le _, rfl⟩ ?_
  rintro ⟨i, ps, A, kA⟩ ⟨hi, hps⟩
  dsimp only at hi hps ⊢
  obtain rfl | rfl | rfl : i = 0 ∨ i = 1 ∨ i = 2 := by omega
  · have hp0 : ps = [] := by simpa using hps
    subst hp0
    repeat' (first
 | (apply G_index (elem := 102) (k := 2); kernel_rfl; eq_refl; eq_refl; omega; omega; eq_refl)
 | (apply G_callF; eq_refl; eq_refl; infer_instance; eq_refl; (apply hg; (repeat first | exact In.here | apply In.there | apply In.skip)); rintro _ _ ⟨qs, B, kB, rfl, hqs, rfl⟩)
 | (apply G_appV (enc := encS); (first | exact wr_p | kernel_rfl); eq_refl; eq_refl; (intro A c; (repeat first | exact Upd.here | apply Upd.there | apply Upd.skip)); infer_instance; (repeat first | exact In.here | apply In.there | apply In.skip); eq_refl; eq_refl; eq_refl; (have := congrArg List.length hqs; rw [List.length_map] at this; (try simp only [List.length_nil]); omega); decide; intro A9 k9)
 | (apply GC_seqK; intro K hK)
 | (apply hK; clear hK K)
 | (apply GC_block)
 | (apply GC_region)
 | (apply GL_nil)
 | (apply thenG_normal)
 | (apply blockG_normal)
 | (apply GC_skip)
 | (apply GC_if_true; eq_refl)
 | (apply GL_on; eq_refl; eq_refl)
 | (apply G_pv; eq_refl; first | exact trivial | omega)
 | (apply G_ldW; eq_refl; (repeat first | exact In.here | apply In.there | apply In.skip); eq_refl)
 | (apply G_cmpT; eq_refl; eq_refl; omega))
    exact ⟨(1, [] ++ qs, A9, k9), (by repeat first | exact trivial | refine ⟨rfl, ?_⟩), (by dsimp only; exact Wk.rows (by repeat first | exact Rem.here | apply Rem.there | apply Rem.skip) (by repeat first | exact Rem.here | apply Rem.there | apply Rem.skip) (by repeat first | exact Wk.nil | exact Wk.refl | (apply Wk.cons; (focus ((repeat first | exact Rem.here | apply Rem.there | apply Rem.skip); done))) | apply Wk.nilv | apply Wk.last | apply Wk.drop)), ⟨by simp only; omega, hqs⟩, by simp only; omega⟩
  · have hpl : ps.length = 3 * c.ands.length := by have := congrArg List.length hps; rw [List.length_map] at this; rw [this]; exact lg
    repeat' (first
 | (apply G_index (elem := 102) (k := 2); kernel_rfl; eq_refl; eq_refl; omega; omega; eq_refl)
 | (apply G_callF; eq_refl; eq_refl; infer_instance; eq_refl; (apply hc; (repeat first | exact In.here | apply In.there | apply In.skip)); rintro _ _ ⟨qs, B, kB, rfl, hqs, rfl⟩)
 | (apply G_appV (enc := encS); (first | exact wr_p | kernel_rfl); eq_refl; eq_refl; (intro A c; (repeat first | exact Upd.here | apply Upd.there | apply Upd.skip)); infer_instance; (repeat first | exact In.here | apply In.there | apply In.skip); eq_refl; eq_refl; eq_refl; (have := congrArg List.length hqs; rw [List.length_map] at this; (try simp only [List.length_nil]); omega); decide; intro A9 k9)
 | (apply GC_seqK; intro K hK)
 | (apply hK; clear hK K)
 | (apply GC_block)
 | (apply GC_region)
 | (apply GL_nil)
 | (apply thenG_normal)
 | (apply blockG_normal)
 | (apply GC_skip)
 | (apply GC_if_true; eq_refl)
 | (apply GL_on; eq_refl; eq_refl)
 | (apply G_pv; eq_refl; first | exact trivial | omega)
 | (apply G_ldW; eq_refl; (repeat first | exact In.here | apply In.there | apply In.skip); eq_refl)
 | (apply G_cmpT; eq_refl; eq_refl; omega))
    exact ⟨(2, ps ++ qs, A9, k9), (by repeat first | exact trivial | refine ⟨rfl, ?_⟩), (by dsimp only; exact Wk.rows (by repeat first | exact Rem.here | apply Rem.there | apply Rem.skip) (by repeat first | exact Rem.here | apply Rem.there | apply Rem.skip) (by repeat first | exact Wk.nil | exact Wk.refl | (apply Wk.cons; (focus ((repeat first | exact Rem.here | apply Rem.there | apply Rem.skip); done))) | apply Wk.nilv | apply Wk.last | apply Wk.drop)), ⟨by simp only; omega, by simp only; rw [List.map_append, hps, hqs]; rfl⟩, by simp only; omega⟩
  · repeat' (first
 | (apply GC_seqK; intro K hK)
 | (apply hK; clear hK K)
 | (clear hK K; apply hK; clear hK K)
 | (apply GC_region)
 | (apply GL_nil)
 | (apply thenG_normal)
 | (apply thenG_exit)
 | (apply blockG_hit)
 | (apply GC_ret)
 | (apply GC_exit)
 | (apply GC_if_false; eq_refl)
 | (apply retG1; eq_refl)
 | (apply GL_on; eq_refl; eq_refl)
 | (apply G_pv; eq_refl; first | exact trivial | omega)
 | (apply G_cmpF; eq_refl; eq_refl; omega))
    exact ⟨[.vec encS 1 67 A kA ps, .any (bun (fam rowJ ps))], (by repeat first | exact Wk.nil | exact Wk.refl | (apply Wk.cons; (focus ((repeat first | exact Rem.here | apply Rem.there | apply Rem.skip); done))) | apply Wk.nilv | apply Wk.last | apply Wk.drop), ps, A, kA, rfl, hps, rfl⟩
end SC
end Go.Proofs.Ytbmngkdnebklpaa
end
section
/- frames: Step, Next; the reference's. -/
set_option linter.unusedVariables false
set_option linter.unusedSimpArgs false
namespace Go.Proofs.Ytbmngkdnebklpaa
namespace SC
open Go.Proofs
attribute [local irreducible] WC WL WX WS WO OX Does DoesU Enters CV Pure thenQ blockQ retQ Wants retQC GC GL GS GX RdB thenG blockG retG Rd At gt CVN CVM
set_option maxRecDepth 100000
end SC
end Go.Proofs.Ytbmngkdnebklpaa
end
section
/- frames: First, Lit, Vars; the reference's. -/
set_option linter.unusedVariables false
set_option linter.unusedSimpArgs false
namespace Go.Proofs.Ytbmngkdnebklpaa
namespace SC
open Go.Proofs
/-- What is wrong with a literal at a step. -/
noncomputable def ltE (c : Circ) (l t : Int) : Int := if (lookM c).2 ≠ 0 then (lookM c).2 else if l < 0 ∨ 2 * c.max + 1 < l then 1 else ftE c t 511 (t + 1)
noncomputable def ltM (c : Circ) (l t : Int) : Int := if ltE c l t = 0 then atM c.max l t else 0
noncomputable def vrM (c : Circ) (n : Int) : Int := if vrE c n = 0 then 1 + n * c.max else 0
theorem ltE_look {c : Circ} {l t : Int} (h : (lookM c).2 ≠ 0) : ltE c l t = (lookM c).2 := if_pos h
theorem ltE_rg {c : Circ} {l t : Int} (h : (lookM c).2 = 0) (h2 : l < 0 ∨ 2 * c.max + 1 < l) : ltE c l t = 1 := by unfold ltE; rw [if_neg (by omega), if_pos h2]
theorem ltE_in {c : Circ} {l t : Int} (h : (lookM c).2 = 0) (h2 : ¬ (l < 0 ∨ 2 * c.max + 1 < l)) : ltE c l t = ftE c t 511 (t + 1) := by unfold ltE; rw [if_neg (by omega), if_neg h2]
theorem ltM_no {c : Circ} {l t : Int} (h : ltE c l t ≠ 0) : ltM c l t = 0 := if_neg h
theorem ltM_ok {c : Circ} {l t : Int} (h : ltE c l t = 0) : ltM c l t = atM c.max l t := if_pos h
theorem vrE_look {c : Circ} {n : Int} (h : (lookM c).2 ≠ 0) : vrE c n = (lookM c).2 := if_pos h
theorem vrE_rg {c : Circ} {n : Int} (h : (lookM c).2 = 0) (h2 : n < 1 ∨ 512 < n) : vrE c n = 1 := by unfold vrE; rw [if_neg (by omega), if_pos h2]
theorem vrE_ok {c : Circ} {n : Int} (h : (lookM c).2 = 0) (h2 : ¬ (n < 1 ∨ 512 < n)) (h3 : ¬ 262144 < 1 + n * c.max) : vrE c n = 0 := by unfold vrE; rw [if_neg (by omega), if_neg h2, if_neg h3]
theorem vrE_ft {c : Circ} {n : Int} (h2 : ¬ (n < 1 ∨ 512 < n)) : ftE c (n - 1) 511 n = vrE c n := by
  unfold vrE ftE
  split
  · rfl
  · first
    | rw [if_neg h2, if_neg (show ¬ (n - 1 < 0 ∨ 511 < n - 1) by omega)]
    | rw [if_neg (show ¬ (n - 1 < 0 ∨ 511 < n - 1) by omega)]
theorem vrE_zero {c : Circ} {n : Int} (h : vrE c n = 0) : (lookM c).2 = 0 ∧ 1 ≤ n ∧ n ≤ 512 ∧ 1 + n * c.max ≤ 262144 := by
  unfold vrE at h
  split at h
  · exact absurd h (by assumption)
  · split at h
    · cases h
    · split at h
      · cases h
      · exact ⟨by omega, by omega, by omega, by omega⟩
theorem vrM_no {c : Circ} {n : Int} (h : vrE c n ≠ 0) : vrM c n = 0 := if_neg h
theorem vrM_ok {c : Circ} {n : Int} (h : vrE c n = 0) : vrM c n = 1 + n * c.max := if_pos h
attribute [local irreducible] WC WL WX WS WO OX Does DoesU Enters CV Pure thenQ blockQ retQ Wants retQC GC GL GS GX RdB thenG blockG retG Rd At gt CVN CVM
set_option maxRecDepth 100000
theorem LitP16_cv {w : World} {c : Circ} {h js : Hd} {l t : Int} (H : CirIn w c h js) (hx : -9223372036854775808 ≤ t ∧ t ≤ 9223372036854775807) : CVN Try.prog 19 [.agg (ccells c h).toArray, nu l, nu t] w fun v N => N = [] ∧ v = .tuple #[nu (ltM c l t), nu (ltE c l t)] := by
  have hrd : ∀ Γ, In Γ (.old w none_) → ∀ w', Mem w' Γ → CVN Try.prog 47 [.agg (ccells c h).toArray] w' _ := fun Γ hi w' M => ready16_cv (H.chg (hi.old M))
  have hlk : ∀ n, (n = t + 1 ∨ 511 < t) → ∀ Γ, In Γ (.old w none_) → ∀ w', Mem w' Γ → CVN Try.prog 36 [.agg (ccells c h).toArray, nu t, nu 511, nu n] w' fun v N => N = [] ∧ v = .tuple #[.agg (ccells c h).toArray, nu (ftE c t 511 (t + 1))] := fun n hn Γ hi w' M => by
    have := looked_cv (t := t) (most := 511) (n := n) (H.chg (hi.old M)) (fun h0 h1 => by omega)
    rcases hn with rfl | hb
    · exact this
    · rw [ftE_n n (t + 1) (.inr hb)] at this
      exact this
  refine CVN.enter 43 [6, 7] Try.func19 rfl rfl rfl (by decide) rfl ?_
  by_cases he : (lookM c).2 = 0
  · have R := right_of H.at_ H.sane he
    have m0 := R.m0
    have m1 := R.m1
    rw [he] at hrd
    by_cases hl : l < 0 ∨ 2 * c.max + 1 < l
    · have hz := ltE_rg (t := t) he hl
      rw [ltM_no (by rw [hz]; decide), hz]
      by_cases h0 : l < 0
      · repeat' (first
 | (apply G_call; eq_refl; eq_refl; (apply hrd; (repeat first | exact In.here | apply In.there | apply In.skip)); rintro _ _ ⟨rfl, rfl⟩)
 | (apply GC_seqK; intro K hK)
 | (apply hK; clear hK K)
 | (apply GC_region)
 | (apply GL_nil)
 | (apply thenG_normal)
 | (apply thenG_ret)
 | (apply GC_ret)
 | (apply GC_skip)
 | (apply GC_if_true; eq_refl)
 | (apply GC_if_false; eq_refl)
 | (apply retG2; eq_refl; eq_refl)
 | (apply GL_on; eq_refl; eq_refl)
 | (apply GL_off; eq_refl; eq_refl)
 | (apply G_pv; eq_refl; first | exact trivial | omega)
 | (apply G_ldW; eq_refl; (repeat first | exact In.here | apply In.there | apply In.skip); eq_refl)
 | (apply G_cmpT; eq_refl; eq_refl; omega)
 | (apply G_cmpF; eq_refl; eq_refl; omega)
 | (apply G_alloc; eq_refl; intro _)
 | (apply G_box; eq_refl; eq_refl; intro _)
 | (apply G_stW; (first | exact wr_p | kernel_rfl); eq_refl; eq_refl; eq_refl; eq_refl; (repeat first | exact Upd.here | apply Upd.there | apply Upd.skip); eq_refl))
        exact ⟨[], (by repeat first | exact Wk.nil | exact Wk.refl | (apply Wk.cons; (focus ((repeat first | exact Rem.here | apply Rem.there | apply Rem.skip); done))) | apply Wk.nilv | apply Wk.last | apply Wk.drop), rfl, rfl⟩
      · repeat' (first
 | (apply G_call; eq_refl; eq_refl; (apply hrd; (repeat first | exact In.here | apply In.there | apply In.skip)); rintro _ _ ⟨rfl, rfl⟩)
 | (apply GC_seqK; intro K hK)
 | (apply hK; clear hK K)
 | (apply GC_region)
 | (apply GL_nil)
 | (apply thenG_normal)
 | (apply thenG_ret)
 | (apply GC_ret)
 | (apply GC_skip)
 | (apply GC_if_true; eq_refl)
 | (apply GC_if_false; eq_refl)
 | (apply retG2; eq_refl; eq_refl)
 | (apply GL_on; eq_refl; eq_refl)
 | (apply G_pv; eq_refl; first | exact trivial | omega)
 | (apply G_field; eq_refl)
 | (apply G_ld; eq_refl; (repeat first | exact In.here | apply In.there | apply In.skip); eq_refl)
 | (apply G_ldW; eq_refl; (repeat first | exact In.here | apply In.there | apply In.skip); eq_refl)
 | (apply G_cmpT; eq_refl; eq_refl; omega)
 | (apply G_cmpF; eq_refl; eq_refl; omega)
 | (apply G_alloc; eq_refl; intro _)
 | (apply G_box; eq_refl; eq_refl; intro _)
 | (apply G_stW; (first | exact wr_p | kernel_rfl); eq_refl; eq_refl; eq_refl; eq_refl; (repeat first | exact Upd.here | apply Upd.there | apply Upd.skip); eq_refl))
        exact ⟨[], (by repeat first | exact Wk.nil | exact Wk.refl | (apply Wk.cons; (focus ((repeat first | exact Rem.here | apply Rem.there | apply Rem.skip); done))) | apply Wk.nilv | apply Wk.last | apply Wk.drop), rfl, rfl⟩
    · have hz := ltE_in (t := t) he hl
      by_cases hf : ftE c t 511 (t + 1) = 0
      · obtain ⟨_, t0, t1, _⟩ := ftE_zero hf
        obtain ⟨z0, z1⟩ := mul_le t0 (by omega : t ≤ 600) m0 m1
        rw [hf] at hz hlk
        have hat : ∀ Γ, ∀ w', Mem w' Γ → CVN Try.prog 43 [.agg (ccells c h).toArray, nu l, nu t] w' _ := fun Γ w' M => at_cv (h := h) (by omega) (by omega) z0 z1
        rw [ltM_ok hz, hz]
        repeat' (first
 | (apply G_call; eq_refl; eq_refl; (apply hrd; (repeat first | exact In.here | apply In.there | apply In.skip)); rintro _ _ ⟨rfl, rfl⟩)
 | (apply G_call; eq_refl; eq_refl; (apply (hlk _ (.inl rfl)); (repeat first | exact In.here | apply In.there | apply In.skip)); rintro _ _ ⟨rfl, rfl⟩)
 | (apply G_call; eq_refl; eq_refl; (apply hat); rintro _ _ ⟨rfl, rfl⟩)
 | (apply GC_seqK; intro K hK)
 | (apply hK; clear hK K)
 | (apply GC_region)
 | (apply GL_nil)
 | (apply thenG_normal)
 | (apply GC_ret)
 | (apply GC_skip)
 | (apply GC_if_false; eq_refl)
 | (apply retG2; eq_refl; eq_refl)
 | (apply GL_on; eq_refl; eq_refl)
 | (apply G_pv; eq_refl; first | exact trivial | omega)
 | (apply G_field; eq_refl)
 | (apply G_ld; eq_refl; (repeat first | exact In.here | apply In.there | apply In.skip); eq_refl)
 | (apply G_ldW; eq_refl; (repeat first | exact In.here | apply In.there | apply In.skip); eq_refl)
 | (apply G_cmpF; eq_refl; eq_refl; omega)
 | (apply G_alloc; eq_refl; intro _)
 | (apply G_box; eq_refl; eq_refl; intro _)
 | (apply G_stW; (first | exact wr_p | kernel_rfl); eq_refl; eq_refl; eq_refl; eq_refl; (repeat first | exact Upd.here | apply Upd.there | apply Upd.skip); eq_refl))
        exact ⟨[], (by repeat first | exact Wk.nil | exact Wk.refl | (apply Wk.cons; (focus ((repeat first | exact Rem.here | apply Rem.there | apply Rem.skip); done))) | apply Wk.nilv | apply Wk.last | apply Wk.drop), rfl, rfl⟩
      · rw [ltM_no (by rw [hz]; exact hf), hz]
        generalize ftE c t 511 (t + 1) = ε at *
        by_cases hb : 511 < t
        · repeat' (first
 | (apply G_call; eq_refl; eq_refl; (apply hrd; (repeat first | exact In.here | apply In.there | apply In.skip)); rintro _ _ ⟨rfl, rfl⟩)
 | (apply GC_seqK; intro K hK)
 | (apply hK; clear hK K)
 | (apply GC_region)
 | (apply GL_nil)
 | (apply thenG_normal)
 | (apply GC_skip)
 | (apply GC_if_false; eq_refl)
 | (apply GL_on; eq_refl; eq_refl)
 | (apply G_pv; eq_refl; first | exact trivial | omega)
 | (apply G_field; eq_refl)
 | (apply G_ld; eq_refl; (repeat first | exact In.here | apply In.there | apply In.skip); eq_refl)
 | (apply G_ldW; eq_refl; (repeat first | exact In.here | apply In.there | apply In.skip); eq_refl)
 | (apply G_cmpF; eq_refl; eq_refl; omega)
 | (apply G_alloc; eq_refl; intro _)
 | (apply G_box; eq_refl; eq_refl; intro _)
 | (apply G_stW; (first | exact wr_p | kernel_rfl); eq_refl; eq_refl; eq_refl; eq_refl; (repeat first | exact Upd.here | apply Upd.there | apply Upd.skip); eq_refl))
          all_goals (try (apply G_addW; eq_refl; eq_refl))
          repeat' (first
 | (apply G_call; eq_refl; eq_refl; (apply (hlk _ (.inr hb)); (repeat first | exact In.here | apply In.there | apply In.skip)); rintro _ _ ⟨rfl, rfl⟩)
 | (apply GC_seqK; intro K hK)
 | (apply hK; clear hK K)
 | (apply GC_region)
 | (apply GL_nil)
 | (apply thenG_normal)
 | (apply thenG_ret)
 | (apply GC_ret)
 | (apply GC_if_true; eq_refl)
 | (apply retG2; eq_refl; eq_refl)
 | (apply GL_on; eq_refl; eq_refl)
 | (apply G_pv; eq_refl; first | exact trivial | omega)
 | (apply G_cmpT; eq_refl; eq_refl; omega)
 | (apply G_stW; (first | exact wr_p | kernel_rfl); eq_refl; eq_refl; eq_refl; eq_refl; (repeat first | exact Upd.here | apply Upd.there | apply Upd.skip); eq_refl))
          exact ⟨[], (by repeat first | exact Wk.nil | exact Wk.refl | (apply Wk.cons; (focus ((repeat first | exact Rem.here | apply Rem.there | apply Rem.skip); done))) | apply Wk.nilv | apply Wk.last | apply Wk.drop), rfl, rfl⟩
        · repeat' (first
 | (apply G_call; eq_refl; eq_refl; (apply hrd; (repeat first | exact In.here | apply In.there | apply In.skip)); rintro _ _ ⟨rfl, rfl⟩)
 | (apply G_call; eq_refl; eq_refl; (apply (hlk _ (.inl rfl)); (repeat first | exact In.here | apply In.there | apply In.skip)); rintro _ _ ⟨rfl, rfl⟩)
 | (apply GC_seqK; intro K hK)
 | (apply hK; clear hK K)
 | (apply GC_region)
 | (apply GL_nil)
 | (apply thenG_normal)
 | (apply thenG_ret)
 | (apply GC_ret)
 | (apply GC_skip)
 | (apply GC_if_true; eq_refl)
 | (apply GC_if_false; eq_refl)
 | (apply retG2; eq_refl; eq_refl)
 | (apply GL_on; eq_refl; eq_refl)
 | (apply G_pv; eq_refl; first | exact trivial | omega)
 | (apply G_field; eq_refl)
 | (apply G_ld; eq_refl; (repeat first | exact In.here | apply In.there | apply In.skip); eq_refl)
 | (apply G_ldW; eq_refl; (repeat first | exact In.here | apply In.there | apply In.skip); eq_refl)
 | (apply G_cmpT; eq_refl; eq_refl; omega)
 | (apply G_cmpF; eq_refl; eq_refl; omega)
 | (apply G_alloc; eq_refl; intro _)
 | (apply G_box; eq_refl; eq_refl; intro _)
 | (apply G_stW; (first | exact wr_p | kernel_rfl); eq_refl; eq_refl; eq_refl; eq_refl; (repeat first | exact Upd.here | apply Upd.there | apply Upd.skip); eq_refl))
          exact ⟨[], (by repeat first | exact Wk.nil | exact Wk.refl | (apply Wk.cons; (focus ((repeat first | exact Rem.here | apply Rem.there | apply Rem.skip); done))) | apply Wk.nilv | apply Wk.last | apply Wk.drop), rfl, rfl⟩
  · have hz := ltE_look (l := l) (t := t) he
    rw [ltM_no (by rw [hz]; exact he), hz]
    generalize (lookM c).2 = ε at *
    repeat' (first
 | (apply G_call; eq_refl; eq_refl; (apply hrd; (repeat first | exact In.here | apply In.there | apply In.skip)); rintro _ _ ⟨rfl, rfl⟩)
 | (apply GC_seqK; intro K hK)
 | (apply hK; clear hK K)
 | (apply GC_region)
 | (apply GL_nil)
 | (apply thenG_normal)
 | (apply thenG_ret)
 | (apply GC_ret)
 | (apply GC_if_true; eq_refl)
 | (apply retG2; eq_refl; eq_refl)
 | (apply GL_on; eq_refl; eq_refl)
 | (apply G_pv; eq_refl; first | exact trivial | omega)
 | (apply G_ldW; eq_refl; (repeat first | exact In.here | apply In.there | apply In.skip); eq_refl)
 | (apply G_cmpT; eq_refl; eq_refl; omega)
 | (apply G_alloc; eq_refl; intro _)
 | (apply G_box; eq_refl; eq_refl; intro _)
 | (apply G_stW; (first | exact wr_p | kernel_rfl); eq_refl; eq_refl; eq_refl; eq_refl; (repeat first | exact Upd.here | apply Upd.there | apply Upd.skip); eq_refl))
    exact ⟨[], (by repeat first | exact Wk.nil | exact Wk.refl | (apply Wk.cons; (focus ((repeat first | exact Rem.here | apply Rem.there | apply Rem.skip); done))) | apply Wk.nilv | apply Wk.last | apply Wk.drop), rfl, rfl⟩
theorem many16_cv {w : World} {c : Circ} {h js : Hd} {n : Int} (H : CirIn w c h js) (n0 : 0 ≤ n) (n1 : n ≤ 512) : CVN Try.prog 53 [.agg (ccells c h).toArray, nu n] w fun v N => N = [] ∧ v = .tuple #[.agg (ccells c h).toArray, nu (ftE c (n - 1) 511 n)] := by
  have hlk : ∀ Γ, In Γ (.old w none_) → ∀ w', Mem w' Γ → CVN Try.prog 36 [.agg (ccells c h).toArray, nu (n - 1), nu 511, nu n] w' _ := fun Γ hi w' M => looked_cv (t := n - 1) (most := 511) (n := n) (H.chg (hi.old M)) (fun h0 h1 => by omega)
  generalize ftE c (n - 1) 511 n = ε at *
  refine CVN.enterC1 (t := 69) 13 4 5 Try.func53 rfl rfl rfl rfl ?_
  repeat' (first
 | (apply G_call; eq_refl; eq_refl; (apply hlk; (repeat first | exact In.here | apply In.there | apply In.skip)); rintro _ _ ⟨rfl, rfl⟩)
 | (apply GC_seqK; intro K hK)
 | (apply hK; clear hK K)
 | (apply GC_region)
 | (apply GL_nil)
 | (apply thenG_normal)
 | (apply GC_ret)
 | (apply retGC1r; eq_refl; (repeat first | exact In.here | apply In.there | apply In.skip); eq_refl; eq_refl)
 | (apply GL_on; eq_refl; eq_refl)
 | (apply G_pv; eq_refl; first | exact trivial | omega)
 | (apply G_ldW; eq_refl; (repeat first | exact In.here | apply In.there | apply In.skip); eq_refl)
 | (apply G_alloc; eq_refl; intro _)
 | (apply G_box; eq_refl; eq_refl; intro _)
 | (apply G_stW; (first | exact wr_p | kernel_rfl); eq_refl; eq_refl; eq_refl; eq_refl; (repeat first | exact Upd.here | apply Upd.there | apply Upd.skip); eq_refl))
  exact ⟨[], (by repeat first | exact Wk.nil | exact Wk.refl | (apply Wk.cons; (focus ((repeat first | exact Rem.here | apply Rem.there | apply Rem.skip); done))) | apply Wk.nilv | apply Wk.last | apply Wk.drop), rfl, rfl⟩
theorem VarsP16_cv {w : World} {c : Circ} {h js : Hd} {n : Int} (H : CirIn w c h js) : CVN Try.prog 22 [.agg (ccells c h).toArray, nu n] w fun v N => N = [] ∧ v = .tuple #[nu (vrM c n), nu (vrE c n)] := by
  refine CVN.enter 26 [4, 5] Try.func22 rfl rfl rfl (by decide) rfl ?_
  by_cases hr : n < 1 ∨ 512 < n
  · have hz : vrE c n ≠ 0 := fun h => by have := vrE_zero h; omega
    have hm : ∀ Γ, In Γ (.old w none_) → ∀ w', Mem w' Γ → CVN Try.prog 53 [.agg (ccells c h).toArray, nu 0] w' fun v N => N = [] ∧ v = .tuple #[.agg (ccells c h).toArray, nu (vrE c n)] := fun Γ hi w' M => by
      have e : ftE c (0 - 1) 511 0 = vrE c n := by
        by_cases he : (lookM c).2 = 0
        · rw [ftE_rg he (by omega), vrE_rg he hr]
        · rw [ftE_look he, vrE_look he]
      have := many16_cv (n := 0) (H.chg (hi.old M)) (by omega) (by omega)
      rw [e] at this
      exact this
    rw [vrM_no hz]
    generalize vrE c n = ε at *
    by_cases h0 : n < 1
    · repeat' (first
 | (apply G_call; eq_refl; eq_refl; (apply hm; (repeat first | exact In.here | apply In.there | apply In.skip)); rintro _ _ ⟨rfl, rfl⟩)
 | (apply GC_seqK; intro K hK)
 | (apply hK; clear hK K)
 | (apply GC_region)
 | (apply GL_nil)
 | (apply thenG_normal)
 | (apply thenG_ret)
 | (apply GC_ret)
 | (apply GC_if_true; eq_refl)
 | (apply retG2; eq_refl; eq_refl)
 | (apply GL_on; eq_refl; eq_refl)
 | (apply GL_off; eq_refl; eq_refl)
 | (apply G_pv; eq_refl; first | exact trivial | omega)
 | (apply G_ldW; eq_refl; (repeat first | exact In.here | apply In.there | apply In.skip); eq_refl)
 | (apply G_cmpT; eq_refl; eq_refl; omega)
 | (apply G_alloc; eq_refl; intro _)
 | (apply G_box; eq_refl; eq_refl; intro _)
 | (apply G_stW; (first | exact wr_p | kernel_rfl); eq_refl; eq_refl; eq_refl; eq_refl; (repeat first | exact Upd.here | apply Upd.there | apply Upd.skip); eq_refl))
      exact ⟨[], (by repeat first | exact Wk.nil | exact Wk.refl | (apply Wk.cons; (focus ((repeat first | exact Rem.here | apply Rem.there | apply Rem.skip); done))) | apply Wk.nilv | apply Wk.last | apply Wk.drop), rfl, rfl⟩
    · repeat' (first
 | (apply G_call; eq_refl; eq_refl; (apply hm; (repeat first | exact In.here | apply In.there | apply In.skip)); rintro _ _ ⟨rfl, rfl⟩)
 | (apply GC_seqK; intro K hK)
 | (apply hK; clear hK K)
 | (apply GC_region)
 | (apply GL_nil)
 | (apply thenG_normal)
 | (apply thenG_ret)
 | (apply GC_ret)
 | (apply GC_if_true; eq_refl)
 | (apply retG2; eq_refl; eq_refl)
 | (apply GL_on; eq_refl; eq_refl)
 | (apply G_pv; eq_refl; first | exact trivial | omega)
 | (apply G_ldW; eq_refl; (repeat first | exact In.here | apply In.there | apply In.skip); eq_refl)
 | (apply G_cmpT; eq_refl; eq_refl; omega)
 | (apply G_cmpF; eq_refl; eq_refl; omega)
 | (apply G_alloc; eq_refl; intro _)
 | (apply G_box; eq_refl; eq_refl; intro _)
 | (apply G_stW; (first | exact wr_p | kernel_rfl); eq_refl; eq_refl; eq_refl; eq_refl; (repeat first | exact Upd.here | apply Upd.there | apply Upd.skip); eq_refl))
      exact ⟨[], (by repeat first | exact Wk.nil | exact Wk.refl | (apply Wk.cons; (focus ((repeat first | exact Rem.here | apply Rem.there | apply Rem.skip); done))) | apply Wk.nilv | apply Wk.last | apply Wk.drop), rfl, rfl⟩
  · have hm : ∀ Γ, In Γ (.old w none_) → ∀ w', Mem w' Γ → CVN Try.prog 53 [.agg (ccells c h).toArray, nu n] w' fun v N => N = [] ∧ v = .tuple #[.agg (ccells c h).toArray, nu (vrE c n)] := fun Γ hi w' M => by
      have := many16_cv (n := n) (H.chg (hi.old M)) (by omega) (by omega)
      rw [vrE_ft hr] at this
      exact this
    by_cases hz : vrE c n = 0
    · have he := (vrE_zero hz).1
      have R := right_of H.at_ H.sane he
      have m0 := R.m0
      have m1 := R.m1
      obtain ⟨z0, z1⟩ := mul_le (by omega : 0 ≤ n) (by omega : n ≤ 600) m0 m1
      have hv : ∀ Γ, ∀ w', Mem w' Γ → CVN Try.prog 54 [.agg (ccells c h).toArray, nu n] w' _ := fun Γ w' M => vars_cv (h := h) z0 z1
      rw [vrM_ok hz, hz]
      rw [hz] at hm
      repeat' (first
 | (apply G_call; eq_refl; eq_refl; (apply hm; (repeat first | exact In.here | apply In.there | apply In.skip)); rintro _ _ ⟨rfl, rfl⟩)
 | (apply G_call; eq_refl; eq_refl; (apply hv); rintro _ _ ⟨rfl, rfl⟩)
 | (apply GC_seqK; intro K hK)
 | (apply hK; clear hK K)
 | (apply GC_region)
 | (apply GL_nil)
 | (apply thenG_normal)
 | (apply GC_ret)
 | (apply GC_skip)
 | (apply GC_if_false; eq_refl)
 | (apply retG2; eq_refl; eq_refl)
 | (apply GL_on; eq_refl; eq_refl)
 | (apply G_pv; eq_refl; first | exact trivial | omega)
 | (apply G_ldW; eq_refl; (repeat first | exact In.here | apply In.there | apply In.skip); eq_refl)
 | (apply G_cmpF; eq_refl; eq_refl; omega)
 | (apply G_alloc; eq_refl; intro _)
 | (apply G_box; eq_refl; eq_refl; intro _)
 | (apply G_stW; (first | exact wr_p | kernel_rfl); eq_refl; eq_refl; eq_refl; eq_refl; (repeat first | exact Upd.here | apply Upd.there | apply Upd.skip); eq_refl))
      exact ⟨[], (by repeat first | exact Wk.nil | exact Wk.refl | (apply Wk.cons; (focus ((repeat first | exact Rem.here | apply Rem.there | apply Rem.skip); done))) | apply Wk.nilv | apply Wk.last | apply Wk.drop), rfl, rfl⟩
    · rw [vrM_no hz]
      generalize vrE c n = ε at *
      repeat' (first
 | (apply G_call; eq_refl; eq_refl; (apply hm; (repeat first | exact In.here | apply In.there | apply In.skip)); rintro _ _ ⟨rfl, rfl⟩)
 | (apply GC_seqK; intro K hK)
 | (apply hK; clear hK K)
 | (apply GC_region)
 | (apply GL_nil)
 | (apply thenG_normal)
 | (apply thenG_ret)
 | (apply GC_ret)
 | (apply GC_skip)
 | (apply GC_if_true; eq_refl)
 | (apply GC_if_false; eq_refl)
 | (apply retG2; eq_refl; eq_refl)
 | (apply GL_on; eq_refl; eq_refl)
 | (apply G_pv; eq_refl; first | exact trivial | omega)
 | (apply G_ldW; eq_refl; (repeat first | exact In.here | apply In.there | apply In.skip); eq_refl)
 | (apply G_cmpT; eq_refl; eq_refl; omega)
 | (apply G_cmpF; eq_refl; eq_refl; omega)
 | (apply G_alloc; eq_refl; intro _)
 | (apply G_box; eq_refl; eq_refl; intro _)
 | (apply G_stW; (first | exact wr_p | kernel_rfl); eq_refl; eq_refl; eq_refl; eq_refl; (repeat first | exact Upd.here | apply Upd.there | apply Upd.skip); eq_refl))
      exact ⟨[], (by repeat first | exact Wk.nil | exact Wk.refl | (apply Wk.cons; (focus ((repeat first | exact Rem.here | apply Rem.there | apply Rem.skip); done))) | apply Wk.nilv | apply Wk.last | apply Wk.drop), rfl, rfl⟩
end SC
end Go.Proofs.Ytbmngkdnebklpaa
end
section
/- slices.Grow (the kit's contract laid at this program) and slices.Concat at clauses. -/
set_option linter.unusedVariables false
set_option linter.unusedSimpArgs false
namespace Go.Proofs.Ytbmngkdnebklpaa
namespace SC
open Go.Proofs
open Go.Shelf
set_option maxRecDepth 100000
def groRen : Ren := ⟨fun | 4 => 61 | n => n, fun | 0 => 0 | 3 => 3 | 4 => 4 | 9 => 9 | 20 => 20 | 22 => 32 | 25 => 67 | n => n, fun n => n⟩
theorem groLay : Lays8.n4 Try.prog groRen := {
  mixed := by kernel_rfl
  f4 := ⟨Try.f61.name, by rfl, by kernel_rfl⟩
  t0 := by kernel_rfl
  a0 := fun w => by kernel_rfl
  z0 := fun w => by kernel_rfl
  v0 := fun w => by kernel_rfl
  t3 := by kernel_rfl
  a3 := fun w => by kernel_rfl
  z3 := fun w => by kernel_rfl
  v3 := fun w => by kernel_rfl
  t4 := by kernel_rfl
  a4 := fun w => by kernel_rfl
  z4 := fun w => by kernel_rfl
  v4 := fun w => by kernel_rfl
  t9 := by kernel_rfl
  a9 := fun w => by kernel_rfl
  z9 := fun w => by kernel_rfl
  v9 := fun w => by kernel_rfl
  t20 := by kernel_rfl
  a20 := fun w => by kernel_rfl
  z20 := fun w => by kernel_rfl
  v20 := fun w => by kernel_rfl
  t22 := by kernel_rfl
  a22 := fun w => by kernel_rfl
  z22 := fun w => by kernel_rfl
  v22 := fun w => by kernel_rfl }
theorem grow_cv {w : World} {n : Nat} (h0 : 0 < n) (h1 : n ≤ 1000000) : CVN Try.prog 61 [.slice none 0 0, nu (n : Int)] w fun v N => ∃ b k, v = .slice (some ⟨b, 0, none⟩) 0 k ∧ N = [.vec (encS (β := Int)) 1 67 (some ⟨b, 0, none⟩) k []] := by
  have T : Ty Try.prog 67 _ 1 _ 24 false := inferInstance
  have hi := T.info
  cases hi0 : Try.prog.info? 67 with
  | none => rw [hi0] at hi; cases hi
  | some i0 =>
    rw [hi0] at hi
    simp only [Option.map_some, Option.some.injEq, Prod.mk.injEq] at hi
    obtain ⟨e1, e2, e3⟩ := hi
    have hc := Any8.slices_Grow_grow groLay i0 _ hi0 e1 (by omega) none 0 0 n [] w (Nat.le_refl _) (by omega) (by rw [e3]; omega) (by omega) (by simp) (fun _ => rfl) (fun a ha => by cases ha)
    refine cv_of hc ?_
    rw [show groRen.t 25 = 67 from rfl, show (0 + n : Nat) = n by omega]
    have hle := grownCap_ge w n 0 67
    have hml := grownCap_le_maxLen w n 0 67 (by unfold maxLen; omega)
    generalize grownCap w n 0 67 = G at *
    refine ⟨_, ?_, w.heap.size, G, rfl, rfl⟩
    generalize hcs : ((([] : List Value).toArray ++ Builtin.zeroCells (Value.slice none 0 0).cells (n - 0) ++ Builtin.zeroCells (Value.slice none 0 0).cells (G - n)) : Array Value) = cs
    have hz : cs.size = G := by rw [← hcs]; simp [Builtin.zeroCells, Value.cells]; omega
    have M1 := (Mem.start w).drew.new cs 67
    have hb : (Ent.vec (encS (β := Int)) 1 67 (some ⟨w.heap.size, 0, none⟩) G []).ok (w.drew.alloc (.cells cs 67)) :=
      ⟨by simp, .inr ⟨w.heap.size, G, cs, rfl, Nat.zero_le _, heap_alloc_new w.drew _, Nat.zero_le _, hml, by rw [hz, Nat.mul_one], by simp⟩⟩
    refine M1.tail.cons hb fun k hk ho => ?_
    obtain ⟨E, hE, h2⟩ := ho
    simp only [Ent.own, Value.ownBlock, Option.some.injEq] at hk
    exact (List.pairwise_cons.1 M1.ap).1 E hE k hk.symm h2
/-- How long all together. -/
abbrev CatL := List (Hdl × List (Hdl × List Int))
def catN (Q : CatL) : Nat := (Q.flatMap (·.2)).length
theorem catN_take (Q : CatL) (i : Nat) : catN (Q.take i) ≤ catN Q := by
  unfold catN
  conv => rhs; rw [← List.take_append_drop i Q, List.flatMap_append, List.length_append]
  omega
attribute [local irreducible] WC WL WX WS WO OX Does DoesU Enters CV Pure thenQ blockQ retQ Wants retQC GC GL GS GX RdB thenG blockG retG Rd At gt CVN CVM
theorem concat_cv {w : World} {A : Option Addr} {k : Nat} {Q : CatL} (H : RowA w encS 1 A Q) (H2 : ∀ q ∈ Q, RowA w encS 1 q.1.1 q.2 ∧ (q.1.1 = none → q.1.2 = 0)) (hq : Q.length ≤ 1000) (h0 : 0 < catN Q) (h1 : catN Q ≤ 1000000) :
    CVN Try.prog 32 [.slice A Q.length k] w fun v N => ∃ B c, v = .slice B (Q.flatMap (·.2)).length c ∧ N = [.vec encS 1 67 B c (Q.flatMap (·.2))] := by
  have hgr : ∀ Γ, ∀ w', Mem w' Γ → CVN Try.prog 61 [.slice none 0 0, nu (catN Q : Int)] w' _ := fun Γ w' M => grow_cv h0 h1
  refine CVN.enter 36 [2] Try.func32 rfl rfl rfl (by decide) rfl ?_
  repeat' (first
 | (apply GC_seqK; intro K hK)
 | (apply hK; clear hK K)
 | (apply GC_block)
 | (apply GC_region)
 | (apply GL_nil)
 | (apply thenG_normal)
 | (apply GL_on; eq_refl; eq_refl)
 | (apply G_pv; eq_refl; first | exact trivial | omega)
 | (apply G_len; eq_refl))
  refine GC_loopK [0, 9, 10] (fun i : Nat => [(11, nu i), (3, nu (catN (Q.take i) : Nat))]) (fun _ => [.old w none_]) (fun i => i ≤ Q.length) (fun i => Q.length - i) 0 (by repeat first | exact Pick.nil | (apply Pick.cons; eq_refl)) (by repeat first | exact trivial | refine ⟨rfl, ?_⟩) (by repeat first | exact Wk.nil | exact Wk.refl | (apply Wk.cons; (focus ((repeat first | exact Rem.here | apply Rem.there | apply Rem.skip); done))) | apply Wk.nilv | apply Wk.last | apply Wk.drop) (Nat.zero_le _) ?_
  intro i hi
  have cn := catN_take Q i
  rcases Nat.lt_or_ge i Q.length with hlt | hge
  · have g1 := gt_nat hlt
    have e1 : catN (Q.take (i + 1)) = catN (Q.take i) + (gt Q (i : Int)).2.length := by unfold catN; rw [flat_snoc hlt, List.length_append]
    have cn1 := catN_take Q (i + 1)
    generalize hx : gt Q (i : Int) = x at *
    obtain ⟨x1, l1⟩ := x
    dsimp only at e1
    repeat' (first
 | (apply G_rd; eq_refl; (first | (apply Rd.own; (repeat first | exact In.here | apply In.there | apply In.skip); infer_instance) | (apply Rd.old; (repeat first | exact In.here | apply In.there | apply In.skip); assumption) | (apply Rd.oldR; (repeat first | exact In.here | apply In.there | apply In.skip); assumption) | exact Rd.nil | assumption); (case ih => infer_instance); omega; omega; (rw [hx]; dsimp only [encS]; eq_refl))
 | (apply GC_seqK; intro K hK)
 | (apply hK; clear hK K)
 | (apply GC_block)
 | (apply GC_region)
 | (apply GL_nil)
 | (apply thenG_normal)
 | (apply blockG_normal)
 | (apply GC_skip)
 | (apply GC_if_true; eq_refl)
 | (apply GC_if_false; eq_refl)
 | (apply GL_on; eq_refl; eq_refl)
 | (apply G_pv; eq_refl; first | exact trivial | omega)
 | (apply G_cmpT; eq_refl; eq_refl; omega)
 | (apply G_cmpF; eq_refl; eq_refl; omega)
 | (apply G_len; eq_refl)
 | (apply G_ix; eq_refl; eq_refl; (first | (apply Rd.own; (repeat first | exact In.here | apply In.there | apply In.skip); infer_instance) | (apply Rd.old; (repeat first | exact In.here | apply In.there | apply In.skip); assumption) | (apply Rd.oldR; (repeat first | exact In.here | apply In.there | apply In.skip); assumption) | exact Rd.nil | assumption); (first | eq_refl | omega); omega; omega))
    have e2 : ((catN (Q.take (i + 1)) : Nat) : Int) = (catN (Q.take i) : Nat) + (l1.length : Int) := by omega
    refine ⟨i + 1, ?_, (by repeat first | exact Wk.nil | exact Wk.refl | (apply Wk.cons; (focus ((repeat first | exact Rem.here | apply Rem.there | apply Rem.skip); done))) | apply Wk.nilv | apply Wk.last | apply Wk.drop), hlt, by omega⟩
    rw [e2]
    exact (by repeat first | exact trivial | refine ⟨rfl, ?_⟩)
  · obtain rfl : i = Q.length := by omega
    rw [List.take_length] at cn ⊢
    repeat' (first
 | (apply G_call; eq_refl; eq_refl; (apply hgr); rintro _ _ ⟨b, G, rfl, rfl⟩)
 | (apply GC_seqK; intro K hK)
 | (apply hK; clear hK K)
 | (clear hK K; apply hK; clear hK K)
 | (apply GC_block)
 | (apply GC_region)
 | (apply GL_nil)
 | (apply thenG_normal)
 | (apply thenG_exit)
 | (apply blockG_hit)
 | (apply GC_exit)
 | (apply GC_if_false; eq_refl)
 | (apply GL_on; eq_refl; eq_refl)
 | (apply G_pv; eq_refl; first | exact trivial | omega)
 | (apply G_cmpF; eq_refl; eq_refl; omega)
 | (apply G_len; eq_refl))
    refine GC_loopK [25, 26] (fun s : Nat × Option Addr × Nat => [(27, nu s.1), (6, .slice s.2.1 ((Q.take s.1).flatMap (·.2)).length s.2.2)]) (fun s => [.vec encS 1 67 s.2.1 s.2.2 ((Q.take s.1).flatMap (·.2)), .old w none_]) (fun s => s.1 ≤ Q.length) (fun s => Q.length - s.1) (0, some ⟨b, 0, none⟩, G) (by repeat first | exact Pick.nil | (apply Pick.cons; eq_refl)) (by repeat first | exact trivial | refine ⟨rfl, ?_⟩) (by repeat first | exact Wk.nil | exact Wk.refl | (apply Wk.cons; (focus ((repeat first | exact Rem.here | apply Rem.there | apply Rem.skip); done))) | apply Wk.nilv | apply Wk.last | apply Wk.drop) (Nat.zero_le _) ?_
    rintro ⟨i, B, kB⟩ hi
    dsimp only at hi ⊢
    have cn := catN_take Q i
    rcases Nat.lt_or_ge i Q.length with hlt | hge
    · have e1 := flat_snoc (f := (·.2)) hlt
      have cn1 := catN_take Q (i + 1)
      obtain ⟨hx1, hx2⟩ := H2 _ (gt_mem (l := Q) (i := (i : Int)) (by omega) (by omega))
      rw [show catN (Q.take (i + 1)) = _ from congrArg List.length e1, List.length_append] at cn1
      change ((Q.take i).flatMap (·.2)).length ≤ _ at cn
      generalize hx : gt Q (i : Int) = x at *
      obtain ⟨x1, l1⟩ := x
      dsimp only at e1 cn1 hx1 hx2
      generalize (Q.take i).flatMap (·.2) = l at *
      repeat' (first
 | (apply G_rd; eq_refl; (first | (apply Rd.own; (repeat first | exact In.here | apply In.there | apply In.skip); infer_instance) | (apply Rd.old; (repeat first | exact In.here | apply In.there | apply In.skip); assumption) | (apply Rd.oldR; (repeat first | exact In.here | apply In.there | apply In.skip); assumption) | exact Rd.nil | assumption); (case ih => infer_instance); omega; omega; (rw [hx]; dsimp only [encS]; eq_refl))
 | (apply G_appR; (first | exact wr_p | kernel_rfl); eq_refl; eq_refl; (intro A c; (repeat first | exact Upd.here | apply Upd.there | apply Upd.skip)); infer_instance; (first | (apply Rd.own; (repeat first | exact In.here | apply In.there | apply In.skip); infer_instance) | (apply Rd.old; (repeat first | exact In.here | apply In.there | apply In.skip); assumption) | (apply Rd.oldR; (repeat first | exact In.here | apply In.there | apply In.skip); assumption) | exact Rd.nil | assumption); exact hx2; eq_refl; eq_refl; eq_refl; omega; decide; intro A9 k9)
 | (apply GC_seqK; intro K hK)
 | (apply hK; clear hK K)
 | (apply GC_block)
 | (apply GC_region)
 | (apply GL_nil)
 | (apply thenG_normal)
 | (apply blockG_normal)
 | (apply GC_skip)
 | (apply GC_if_true; eq_refl)
 | (apply GL_on; eq_refl; eq_refl)
 | (apply G_pv; eq_refl; first | exact trivial | omega)
 | (apply G_cmpT; eq_refl; eq_refl; omega)
 | (apply G_ix; eq_refl; eq_refl; (first | (apply Rd.own; (repeat first | exact In.here | apply In.there | apply In.skip); infer_instance) | (apply Rd.old; (repeat first | exact In.here | apply In.there | apply In.skip); assumption) | (apply Rd.oldR; (repeat first | exact In.here | apply In.there | apply In.skip); assumption) | exact Rd.nil | assumption); (first | eq_refl | omega); omega; omega))
      refine ⟨(i + 1, A9, k9), ?_, ?_, hlt, by dsimp only; omega⟩
      · dsimp only
        rw [e1]
        exact (by repeat first | exact trivial | refine ⟨rfl, ?_⟩)
      · dsimp only
        rw [e1]
        exact (by repeat first | exact Wk.nil | exact Wk.refl | (apply Wk.cons; (focus ((repeat first | exact Rem.here | apply Rem.there | apply Rem.skip); done))) | apply Wk.nilv | apply Wk.last | apply Wk.drop)
    · obtain rfl : i = Q.length := by omega
      rw [List.take_length]
      repeat' (first
 | (apply GC_seqK; intro K hK)
 | (apply hK; clear hK K)
 | (clear hK K; apply hK; clear hK K)
 | (apply GC_region)
 | (apply GL_nil)
 | (apply thenG_normal)
 | (apply thenG_exit)
 | (apply blockG_hit)
 | (apply GC_ret)
 | (apply GC_exit)
 | (apply GC_if_false; eq_refl)
 | (apply retG1; eq_refl)
 | (apply GL_on; eq_refl; eq_refl)
 | (apply G_pv; eq_refl; first | exact trivial | omega)
 | (apply G_cmpF; eq_refl; eq_refl; omega))
      exact ⟨[.vec encS 1 67 B kB (Q.flatMap (·.2))], (by repeat first | exact Wk.nil | exact Wk.refl | (apply Wk.cons; (focus ((repeat first | exact Rem.here | apply Rem.there | apply Rem.skip); done))) | apply Wk.nilv | apply Wk.last | apply Wk.drop), B, kB, rfl, rfl⟩
end SC
end Go.Proofs.Ytbmngkdnebklpaa
end
section
/- frames: Run. -/
set_option linter.unusedVariables false
set_option linter.unusedSimpArgs false
namespace Go.Proofs.Ytbmngkdnebklpaa
namespace SC
open Go.Proofs
/-- How many clauses so many steps have. -/
noncomputable def rnN (c : Circ) (n : Int) : Int := 1 + ((firstS c).length : Int) + n * (3 * (c.ands.length : Int) + (c.constraints.length : Int)) + 2 * (n - 1) * (c.latches.length : Int)
/-- What is wrong with so many steps' formula. -/
noncomputable def rnE (c : Circ) (n : Int) : Int := if vrE c n ≠ 0 then vrE c n else if 524288 < rnN c n then 6 else 0
noncomputable def rnL (c : Circ) (n : Int) : List (List Int) := if rnE c n = 0 then runS c (n - 1).toNat else []
noncomputable def rnV (c : Circ) (n : Int) : Int := if rnE c n = 0 then 1 + n * c.max else 0
theorem rnE_vr {c : Circ} {n : Int} (h : vrE c n ≠ 0) : rnE c n = vrE c n := if_pos h
theorem rnE_sz {c : Circ} {n : Int} (h : vrE c n = 0) (h2 : 524288 < rnN c n) : rnE c n = 6 := by unfold rnE; rw [if_neg (by omega), if_pos h2]
theorem rnE_ok {c : Circ} {n : Int} (h : vrE c n = 0) (h2 : ¬ 524288 < rnN c n) : rnE c n = 0 := by unfold rnE; rw [if_neg (by omega), if_neg h2]
theorem rnL_no {c : Circ} {n : Int} (h : rnE c n ≠ 0) : rnL c n = [] := if_neg h
theorem rnL_ok {c : Circ} {n : Int} (h : rnE c n = 0) : rnL c n = runS c (n - 1).toNat := if_pos h
theorem rnV_no {c : Circ} {n : Int} (h : rnE c n ≠ 0) : rnV c n = 0 := if_neg h
theorem rnV_ok {c : Circ} {n : Int} (h : rnE c n = 0) : rnV c n = 1 + n * c.max := if_pos h
theorem rnE_zero {c : Circ} {n : Int} (h : rnE c n = 0) : vrE c n = 0 ∧ rnN c n ≤ 524288 := by
  unfold rnE at h
  split at h
  · exact absurd h (by assumption)
  · split at h
    · cases h
    · exact ⟨by omega, by omega⟩
theorem run_num {n a b l : Int} (h1 : 1 ≤ n) (h2 : n ≤ 512) (a0 : 0 ≤ a) (a1 : a ≤ 16384) (b0 : 0 ≤ b) (b1 : b ≤ 16384) (l0 : 0 ≤ l) (l1 : l ≤ 16384) :
    (0 ≤ n * (3 * a + b) ∧ n * (3 * a + b) ≤ 100000000) ∧ (0 ≤ 2 * (n - 1) * l ∧ 2 * (n - 1) * l ≤ 100000000) ∧ (n - 1) * 2 * l = 2 * (n - 1) * l := by
  have h3 := Int.mul_le_mul h2 (by omega : 3 * a + b ≤ 65536) (by omega) (by decide : (0 : Int) ≤ 512)
  have h4 := Int.mul_le_mul (by omega : 2 * (n - 1) ≤ 1022) l1 l0 (by decide : (0 : Int) ≤ 1022)
  refine ⟨⟨Int.mul_nonneg (by omega) (by omega), by omega⟩, ⟨Int.mul_nonneg (by omega) l0, by omega⟩, ?_⟩
  rw [Int.mul_comm (n - 1) 2]
theorem runS_le {c : Circ} (R : Right c) {j : Nat} (hj : j ≤ 512) : (runS c j).length ≤ 60000000 := by
  have n2 := R.nLat
  have n3 := R.nAnd
  have n4 := R.nCon
  have h1 := firstS_len c
  rw [runS_len]
  have h3 := Nat.mul_le_mul (by omega : j + 1 ≤ 513) (by omega : 3 * c.ands.length + c.constraints.length ≤ 65536)
  have h4 := Nat.mul_le_mul hj (by omega : 2 * c.latches.length ≤ 32768)
  omega
theorem map_len {α β : Type} {f : α → β} {l : List α} {m : List β} (h : l.map f = m) : l.length = m.length := by rw [← h, List.length_map]
/-- A formula and an error as an answer. -/
def CnfT (V : Int) (m : List (List Int)) (ε : Int) (v : Value) (N : Mm) : Prop := ∃ ps A k, v = .tuple #[.agg #[nu V, .slice A ps.length k], nu ε] ∧ ps.map (·.2) = m ∧ N = [.vec encS 1 67 A k ps, .any (bun (fam rowJ ps))]
theorem cat2_cv {Γ : Mm} {b b2 b3 kB : Nat} {B : Option Addr} {qs : List (Hdl × List Int)} (h1 : In Γ (.box b 32 [.slice (some ⟨b2, 0, none⟩) 1 1, .slice B qs.length kB])) (h2 : In Γ (.box b2 67 [.slice (some ⟨b3, 0, none⟩) 1 1])) (h3 : In Γ (.vec encS 1 67 B kB qs)) (hl : qs.length ≤ 900000) (w : World) (M : Mem w Γ) :
    CVN Try.prog 32 [.slice (some ⟨b, 0, none⟩) 2 2] w fun v N => ∃ C c, v = .slice C (qs.length + 1) c ∧ N = [.vec encS 1 67 C c (((some ⟨b3, 0, none⟩, 1), [-1]) :: qs)] := by
  have H : RowA w encS 1 (some ⟨b, 0, none⟩) ([((some ⟨b2, 0, none⟩, 1), [((some ⟨b3, 0, none⟩, 1), [-1])]), ((B, kB), qs)] : CatL) := RowA.blk (fun _ => rfl) (h1.box M)
  have hn : B = none → kB = 0 := fun hA => by
    rcases (h3.ok M).2 with ⟨h1, _⟩ | ⟨g, cap, cur, h1, _⟩
    · simp only [Value.slice.injEq] at h1; exact h1.2.2
    · simp only [Value.slice.injEq] at h1; rw [h1.1] at hA; cases hA
  have hc : catN ([((some ⟨b2, 0, none⟩, 1), [((some ⟨b3, 0, none⟩, 1), [-1])]), ((B, kB), qs)] : CatL) = qs.length + 1 := by simp [catN]
  have := concat_cv (k := 2) H (fun q hq => by
    rcases List.mem_cons.1 hq with rfl | hq
    · exact ⟨RowA.blk (enc := encS) (l := ([((some ⟨b3, 0, none⟩, 1), [-1])] : List (Hdl × List Int))) (fun _ => rfl) (h2.box M), fun h => by cases h⟩
    · rcases List.mem_singleton.1 hq with rfl
      exact ⟨RowA.own (enc := encS) (fun _ => rfl) (h3.ok M), hn⟩) (by simp) (by omega) (by omega)
  simpa using this
section
variable {P : Program} {n : Nat} {all : List Oper} {K : Env → Mm → Prop} {e : Env} {Γ : Mm} {d : Option Tmp} {ty t t0 : TypeId} {x y : Operand} {td : TypeDesc} {sz by_ : Nat} {zv : Value} {ag : Bool}
/-- append to a vector that was kept apart. -/
theorem G_appVP {α : Type} {enc : α → List Value} {j : Nat} {A : List Fl} {Θ : Mm} {r : List PStep} [U : Ty P t (.slice t0) 1 (.slice none 0 0) 24 false] [T : Ty P t0 td sz zv by_ ag] {A1 A2 : Option Addr} {c k1 k2 c2 : Nat} {l l2 : List α} {t2 : TypeId} {Θ2 : Option Addr → Nat → Mm} (h : ev e x = some (.slice A1 k1 c)) (h1 : ev e y = some (.slice A2 k2 c2))
    (hU : ∀ A' c', Upd Θ (.vec enc sz t0 A1 c l) (.vec enc sz t0 A' c' (l ++ l2)) (Θ2 A' c')) (N : Enc enc sz) (hi : In Γ (.vec enc sz t2 A2 c2 l2)) (hk1 : k1 = l.length) (hk : k2 = l2.length) (hzs : zv.cells.size = sz) (hby : (l.length + l2.length) * by_ ≤ 140737488355328) (hby1 : 1 ≤ by_)
    (hr : ∀ A' c', GS P n all K A (Θ2 A' c') r (push d (.slice A' (l ++ l2).length c') e) Γ) : GX P n all K (.c j A Θ r) d (.call { callee := .builtin .append, args := #[x, y], argTypes := #[t, t] }) ty e Γ := fun pos af g ho hg hd hA =>
  GS_priv (R := fun v Θ1 N => ∃ A' c', v = .slice A' (l ++ l2).length c' ∧ Θ1 = Θ2 A' c' ∧ N = []) ho hg hd hA (fun Δ w M =>
    (acts_appendR (P := P) (ty := ty) (t := t) (t0 := t0) (enc := enc) (Γ2 := fun A' c' => Θ2 A' c' ++ Γ) h hk1 h1 hk (fun A' c' => (hU A' c').left) (fun w M => Rd.own hi N w M.right) (fun w M hA => by
      have := hi.ok M.right
      rcases this.2 with ⟨h1, _⟩ | ⟨g, cap, cur, h1, _⟩
      · simp only [Value.slice.injEq] at h1; exact h1.2.2
      · simp only [Value.slice.injEq] at h1; rw [h1.1] at hA; cases hA) hzs hby hby1 Δ w M).mono fun v w' ⟨Γ', M', A', c', e1, e2⟩ => by
        subst e2
        exact ⟨Θ2 A' c', [], M', A', c', e1, rfl, rfl⟩) fun v Θ1 N ⟨A', c', e1, e2, e3⟩ => by rw [e1, e2, e3]; exact hr A' c'
theorem Wk.rows2 {Γ Γ1 Γ2 Γ3 Γ' : Mm} {ps qs rs : List (Hdl × List Int)} (h1 : Rem Γ (.any (bun (fam rowJ ps))) Γ1) (h2 : Rem Γ1 (.any (bun (fam rowJ qs))) Γ2) (h3 : Rem Γ2 (.any (bun (fam rowJ rs))) Γ3) (h : Wk Γ3 Γ') : Wk Γ (.any (bun (fam rowJ (ps ++ qs ++ rs))) :: Γ') :=
  (Wk.rows h1 h2 .refl).trans (Wk.rows .here h3 h)
end
attribute [local irreducible] WC WL WX WS WO OX Does DoesU Enters CV Pure thenQ blockQ retQ Wants retQC GC GL GS GX RdB thenG blockG retG Rd At gt CVN CVM
set_option maxRecDepth 100000
theorem RunP16_cv {w : World} {c : Circ} {h js : Hd} {n : Int} (H : CirIn w c h js) : CVN Try.prog 10 [.agg (ccells c h).toArray, nu n] w (CnfT (rnV c n) (rnL c n) (rnE c n)) := by
  have hvr : ∀ Γ, In Γ (.old w none_) → ∀ w', Mem w' Γ → CVN Try.prog 22 [.agg (ccells c h).toArray, nu n] w' _ := fun Γ hi w' M => VarsP16_cv (H.chg (hi.old M))
  refine CVN.enterC1 (t := 34) 79 4 5 Try.func10 rfl rfl rfl rfl ?_
  by_cases hz : vrE c n = 0
  · obtain ⟨he, n1, n2, n3⟩ := vrE_zero hz
    have R := right_of H.at_ H.sane he
    have m0 := R.m0
    have m1 := R.m1
    have l2 := R.nLat
    have l3 := R.nAnd
    have l4 := R.nCon
    have lf := firstS_len c
    obtain ⟨⟨z0, z1⟩, ⟨z2, z3⟩, _⟩ := run_num (a := (c.ands.length : Int)) (b := (c.constraints.length : Int)) (l := (c.latches.length : Int)) n1 n2 (by omega) (by omega) (by omega) (by omega) (by omega) (by omega)
    have hfs : ∀ Γ, In Γ (.old w none_) → ∀ w', Mem w' Γ → CVN Try.prog 33 [.agg (ccells c h).toArray] w' (CliR (firstS c)) := fun Γ hi w' M => firstS_cv R (H.at_.chg (hi.old M))
    have hst : ∀ t : Int, 0 ≤ t → t ≤ 512 → ∀ Γ, In Γ (.old w none_) → ∀ w', Mem w' Γ → CVN Try.prog 34 [.agg (ccells c h).toArray, nu t] w' (CliR (stepS c t)) := fun t t0 t1 Γ hi w' M => stepF_cv R (H.at_.chg (hi.old M)) t0 (by omega)
    have hnx : ∀ t : Int, 0 ≤ t → t ≤ 512 → ∀ Γ, In Γ (.old w none_) → ∀ w', Mem w' Γ → CVN Try.prog 35 [.agg (ccells c h).toArray, nu t] w' (CliR (nextS c t)) := fun t t0 t1 Γ hi w' M => nextS_cv R (H.at_.chg (hi.old M)) t0 (by omega)
    rw [hz, vrM_ok hz] at hvr
    by_cases hs : 524288 < rnN c n
    · rw [rnV_no (by rw [rnE_sz hz hs]; decide), rnL_no (by rw [rnE_sz hz hs]; decide), rnE_sz hz hs]
      unfold rnN at hs
      repeat' (first
 | (apply G_call; eq_refl; eq_refl; (apply hvr; (repeat first | exact In.here | apply In.there | apply In.skip)); rintro _ _ ⟨rfl, rfl⟩)
 | (apply G_call; eq_refl; eq_refl; (apply hfs; (repeat first | exact In.here | apply In.there | apply In.skip)); rintro _ _ ⟨qs, B, kB, rfl, hqs, rfl⟩; have lq := map_len hqs)
 | (apply G_call; eq_refl; eq_refl; (apply cat2_cv; (repeat first | exact In.here | apply In.there | apply In.skip); (repeat first | exact In.here | apply In.there | apply In.skip); (repeat first | exact In.here | apply In.there | apply In.skip); omega); rintro _ _ ⟨C, kC, rfl, rfl⟩)
 | (apply GC_seqK; intro K hK)
 | (apply hK; clear hK K)
 | (apply GC_region)
 | (apply GL_nil)
 | (apply thenG_normal)
 | (apply thenG_ret)
 | (apply GC_ret)
 | (apply GC_skip)
 | (apply GC_if_true; eq_refl)
 | (apply GC_if_false; eq_refl)
 | (apply retGC1r; eq_refl; (repeat first | exact In.here | apply In.there | apply In.skip); eq_refl; eq_refl)
 | (apply GL_on; eq_refl; eq_refl)
 | (apply G_pv; eq_refl; first | exact trivial | omega)
 | (apply G_field; eq_refl)
 | (apply G_ld; eq_refl; (repeat first | exact In.here | apply In.there | apply In.skip); eq_refl)
 | (apply G_ldW; eq_refl; (repeat first | exact In.here | apply In.there | apply In.skip); eq_refl)
 | (apply G_cmpT; eq_refl; eq_refl; omega)
 | (apply G_cmpF; eq_refl; eq_refl; omega)
 | (apply G_len; eq_refl)
 | (apply G_alloc; eq_refl; intro _)
 | (apply G_box; eq_refl; eq_refl; intro _)
 | (apply G_stW; (first | exact wr_p | kernel_rfl); eq_refl; eq_refl; eq_refl; eq_refl; (repeat first | exact Upd.here | apply Upd.there | apply Upd.skip); eq_refl)
 | (apply GX_pure; apply build34_)
 | (apply GX_pure; apply build69_0 <;> eq_refl)
 | (apply GX_pure; apply build34_0_1 <;> eq_refl)
 | (apply G_new (fun b => .slice (some ⟨b, 0, none⟩) 1 1); eq_refl; (intro _; apply buildS67_1 <;> eq_refl); intro _)
 | (apply G_new (fun b => .slice (some ⟨b, 0, none⟩) 1 1); eq_refl; (intro _; apply buildS32_1 <;> eq_refl); intro _)
 | (apply G_new (fun b => .slice (some ⟨b, 0, none⟩) 2 2); eq_refl; (intro _; apply buildS100_2 <;> eq_refl); intro _))
      exact ⟨[.vec encS 1 67 none 0 [], .any (bun (fam rowJ []))], Wk.nilv (rows_nil (by repeat first | exact Wk.nil | exact Wk.refl | (apply Wk.cons; (focus ((repeat first | exact Rem.here | apply Rem.there | apply Rem.skip); done))) | apply Wk.nilv | apply Wk.last | apply Wk.drop)), [], none, 0, rfl, rfl, rfl⟩
    · rw [rnV_ok (rnE_ok hz hs), rnL_ok (rnE_ok hz hs), rnE_ok hz hs]
      unfold rnN at hs
      have ls0 := stepS_len c 0
      repeat' (first
 | (apply G_call; eq_refl; eq_refl; (apply hvr; (repeat first | exact In.here | apply In.there | apply In.skip)); rintro _ _ ⟨rfl, rfl⟩)
 | (apply G_call; eq_refl; eq_refl; (apply hfs; (repeat first | exact In.here | apply In.there | apply In.skip)); rintro _ _ ⟨qs, B, kB, rfl, hqs, rfl⟩; have lq := map_len hqs)
 | (apply G_call; eq_refl; eq_refl; (apply cat2_cv; (repeat first | exact In.here | apply In.there | apply In.skip); (repeat first | exact In.here | apply In.there | apply In.skip); (repeat first | exact In.here | apply In.there | apply In.skip); omega); rintro _ _ ⟨C, kC, rfl, rfl⟩)
 | (apply G_call; eq_refl; eq_refl; (apply (hst 0 (by omega) (by omega)); (repeat first | exact In.here | apply In.there | apply In.skip)); rintro _ _ ⟨rs, D, kD, rfl, hrs, rfl⟩; have lr := map_len hrs)
 | (apply GC_seqK; intro K hK)
 | (apply hK; clear hK K)
 | (apply GC_block)
 | (apply GC_region)
 | (apply GL_nil)
 | (apply thenG_normal)
 | (apply GC_skip)
 | (apply GC_if_false; eq_refl)
 | (apply GL_on; eq_refl; eq_refl)
 | (refine GC_draws (id := 8) [.q 0, .q 1, .q 2, .c 3, .c 4, .q 5, .c 6] mixed (by kernel_rfl) (by kernel_rfl) ?_)
 | (apply GS_nil)
 | (apply GS_qon; eq_refl; eq_refl; eq_refl; eq_refl)
 | (apply GS_con; eq_refl; eq_refl; eq_refl; eq_refl)
 | (apply G_pv; eq_refl; first | exact trivial | omega)
 | (apply G_field; eq_refl)
 | (apply G_ld; eq_refl; (repeat first | exact In.here | apply In.there | apply In.skip); eq_refl)
 | (apply G_ldW; eq_refl; (repeat first | exact In.here | apply In.there | apply In.skip); eq_refl)
 | (apply G_cmpF; eq_refl; eq_refl; omega)
 | (apply G_len; eq_refl)
 | (apply G_alloc; eq_refl; intro _)
 | (apply G_box; eq_refl; eq_refl; intro _)
 | (apply G_st; (first | exact wr_p | kernel_rfl); eq_refl; eq_refl; eq_refl; eq_refl; (repeat first | exact Upd.here | apply Upd.there | apply Upd.skip); (first | decide | exact Nat.le_of_ble_eq_true rfl))
 | (apply G_stW; (first | exact wr_p | kernel_rfl); eq_refl; eq_refl; eq_refl; eq_refl; (repeat first | exact Upd.here | apply Upd.there | apply Upd.skip); eq_refl)
 | (apply G_appV; (first | exact wr_p | kernel_rfl); eq_refl; eq_refl; (intro A c; (repeat first | exact Upd.here | apply Upd.there | apply Upd.skip)); infer_instance; (repeat first | exact In.here | apply In.there | apply In.skip); eq_refl; eq_refl; eq_refl; ((try simp only [List.length_append, List.length_cons, List.length_nil]); omega); decide; intro _ _)
 | (apply GX_pure; apply build69_0 <;> eq_refl)
 | (apply GX_pure; apply build34_0_1 <;> eq_refl)
 | (apply G_new (fun b => .slice (some ⟨b, 0, none⟩) 1 1); eq_refl; (intro _; apply buildS67_1 <;> eq_refl); intro _)
 | (apply G_new (fun b => .slice (some ⟨b, 0, none⟩) 1 1); eq_refl; (intro _; apply buildS32_1 <;> eq_refl); intro _)
 | (apply G_new (fun b => .slice (some ⟨b, 0, none⟩) 2 2); eq_refl; (intro _; apply buildS100_2 <;> eq_refl); intro _))
      rename_i b2 b4 b8 b24 b25 b28 b9 A1 k1
      refine GC_loopK [1, 2, 4, 8, 9] (fun s : Nat × List (Hdl × List Int) × Option Addr × Nat => [(10, nu ((s.1 + 1 : Nat) : Int))]) (fun s => [.any (bun (fam rowJ s.2.1)), .vec encS 1 67 s.2.2.1 s.2.2.2 s.2.1, .box b9 34 [nu (1 + n * c.max), .slice s.2.2.1 s.2.1.length s.2.2.2], .box b8 69 (ccells c h), .box b4 34 [nu 0, .slice none 0 0], .box b2 29 (ccells c h), .old w none_])
        (fun s => (s.1 : Int) + 1 ≤ n ∧ s.2.1.map (·.2) = runS c s.1) (fun s => n.toNat - s.1) (0, ((some ⟨b24, 0, none⟩, 1), [-1]) :: qs ++ rs, A1, k1) (by repeat first | exact Pick.nil | (apply Pick.cons; eq_refl)) (by repeat first | exact trivial | refine ⟨rfl, ?_⟩) ?_ ⟨by dsimp only; omega, ?_⟩ ?_
      · refine Wk.trans (rows_nil .refl) ?_
        refine Wk.trans (Wk.add1 (l := [-1]) (b := b24) .here (by repeat first | exact Rem.here | apply Rem.there | apply Rem.skip) rfl (Nat.le_of_ble_eq_true rfl) .refl) ?_
        refine Wk.trans (Wk.rows (qs := qs) .here (by repeat first | exact Rem.here | apply Rem.there | apply Rem.skip) .refl) ?_
        exact Wk.rows .here (by repeat first | exact Rem.here | apply Rem.there | apply Rem.skip) (by repeat first | exact Wk.nil | exact Wk.refl | (apply Wk.cons; (focus ((repeat first | exact Rem.here | apply Rem.there | apply Rem.skip); done))) | apply Wk.nilv | apply Wk.last | apply Wk.drop)
      · dsimp only
        rw [List.cons_append, List.map_cons, List.map_append, hqs, hrs]
        rfl
      rintro ⟨j, ps, A, kA⟩ ⟨hj, hps⟩
      dsimp only at hj hps ⊢
      have lp := map_len hps
      have le := runS_le R (j := j) (by omega)
      rcases Int.lt_or_le ((j : Int) + 1) n with hlt | hge
      · have ln := nextS_len c (j : Int)
        have ls := stepS_len c ((j : Int) + 1)
        have hn : ∀ Γ, In Γ (.old w none_) → ∀ w', Mem w' Γ → CVN Try.prog 35 [.agg (ccells c h).toArray, nu (((j + 1 : Nat) : Int) - 1)] w' (CliR (nextS c (j : Int))) := by
          rw [show ((j + 1 : Nat) : Int) - 1 = (j : Int) by omega]
          exact hnx _ (by omega) (by omega)
        have hs1 : ∀ Γ, In Γ (.old w none_) → ∀ w', Mem w' Γ → CVN Try.prog 34 [.agg (ccells c h).toArray, nu ((j + 1 : Nat) : Int)] w' (CliR (stepS c ((j : Int) + 1))) := by
          rw [show ((j + 1 : Nat) : Int) = (j : Int) + 1 by omega]
          exact hst _ (by omega) (by omega)
        repeat' (first
 | (apply GC_drawsP (id := 12) (C := [.vec encS 1 67 A kA ps]) [.q 0, .q 1, .q 2, .q 3, .q 4, .q 7, .q 8, .c 5, .c 6, .c 9, .c 10, .q 11, .c 12]; exact mixed; kernel_rfl; kernel_rfl; (repeat first | exact Rems.nil | (apply Rems.cons; (focus ((repeat first | exact Rem.here | apply Rem.there | apply Rem.skip); done)))))
 | (apply GS_nilP)
 | (apply G_appVP (enc := encS); eq_refl; eq_refl; (intro A c; (repeat first | exact Upd.here | apply Upd.there | apply Upd.skip)); infer_instance; (repeat first | exact In.here | apply In.there | apply In.skip); eq_refl; eq_refl; eq_refl; ((try simp only [List.length_append]); omega); decide; intro _ _)
 | (apply G_call; eq_refl; eq_refl; (apply hn; (repeat first | exact In.here | apply In.there | apply In.skip)); rintro _ _ ⟨us, D2, kD2, rfl, hus, rfl⟩; have lu := map_len hus)
 | (apply G_call; eq_refl; eq_refl; (apply hs1; (repeat first | exact In.here | apply In.there | apply In.skip)); rintro _ _ ⟨vs, D3, kD3, rfl, hvs, rfl⟩; have lv := map_len hvs)
 | (apply GC_seqK; intro K hK)
 | (apply hK; clear hK K)
 | (apply GC_block)
 | (apply GC_region)
 | (apply GL_nil)
 | (apply thenG_normal)
 | (apply blockG_normal)
 | (apply GC_skip)
 | (apply GC_if_true; eq_refl)
 | (apply GL_on; eq_refl; eq_refl)
 | (apply GS_qon; eq_refl; eq_refl; eq_refl; eq_refl)
 | (apply GS_con; eq_refl; eq_refl; eq_refl; eq_refl)
 | (apply G_pv; eq_refl; first | exact trivial | omega)
 | (apply G_field; eq_refl)
 | (apply G_ld; eq_refl; (repeat first | exact In.here | apply In.there | apply In.skip); eq_refl)
 | (apply G_ldW; eq_refl; (repeat first | exact In.here | apply In.there | apply In.skip); eq_refl)
 | (apply G_cmpT; eq_refl; eq_refl; omega)
 | (apply G_st; (first | exact wr_p | kernel_rfl); eq_refl; eq_refl; eq_refl; eq_refl; (repeat first | exact Upd.here | apply Upd.there | apply Upd.skip); (first | decide | exact Nat.le_of_ble_eq_true rfl)))
        rename_i A5 k5 A6 k6
        refine ⟨(j + 1, ps ++ us ++ vs, A6, k6), (by repeat first | exact trivial | refine ⟨rfl, ?_⟩), ?_, ⟨by dsimp only; omega, ?_⟩, by dsimp only; omega⟩
        · dsimp only
          exact Wk.rows2 (by repeat first | exact Rem.here | apply Rem.there | apply Rem.skip) (by repeat first | exact Rem.here | apply Rem.there | apply Rem.skip) (by repeat first | exact Rem.here | apply Rem.there | apply Rem.skip) (by repeat first | exact Wk.nil | exact Wk.refl | (apply Wk.cons; (focus ((repeat first | exact Rem.here | apply Rem.there | apply Rem.skip); done))) | apply Wk.nilv | apply Wk.last | apply Wk.drop)
        · dsimp only
          rw [List.map_append, List.map_append, hps, hus, hvs]
          rfl
      · obtain rfl : n = (j : Int) + 1 := by omega
        repeat' (first
 | (apply GC_seqK; intro K hK)
 | (apply hK; clear hK K)
 | (clear hK K; apply hK; clear hK K)
 | (apply GC_region)
 | (apply GL_nil)
 | (apply thenG_normal)
 | (apply thenG_exit)
 | (apply blockG_hit)
 | (apply GC_ret)
 | (apply GC_exit)
 | (apply GC_if_false; eq_refl)
 | (apply retGC1r; eq_refl; (repeat first | exact In.here | apply In.there | apply In.skip); eq_refl; eq_refl)
 | (apply GL_on; eq_refl; eq_refl)
 | (apply G_pv; eq_refl; first | exact trivial | omega)
 | (apply G_ldW; eq_refl; (repeat first | exact In.here | apply In.there | apply In.skip); eq_refl)
 | (apply G_cmpF; eq_refl; eq_refl; omega)
 | (apply G_stW; (first | exact wr_p | kernel_rfl); eq_refl; eq_refl; eq_refl; eq_refl; (repeat first | exact Upd.here | apply Upd.there | apply Upd.skip); eq_refl))
        exact ⟨[.vec encS 1 67 A kA ps, .any (bun (fam rowJ ps))], (by repeat first | exact Wk.nil | exact Wk.refl | (apply Wk.cons; (focus ((repeat first | exact Rem.here | apply Rem.there | apply Rem.skip); done))) | apply Wk.nilv | apply Wk.last | apply Wk.drop), ps, A, kA, rfl, by rw [show ((j : Int) + 1 - 1).toNat = j by omega]; exact hps, rfl⟩
  · rw [rnV_no (by rw [rnE_vr hz]; exact hz), rnL_no (by rw [rnE_vr hz]; exact hz), rnE_vr hz]
    rw [vrM_no hz] at hvr
    generalize vrE c n = ε at *
    repeat' (first
 | (apply G_call; eq_refl; eq_refl; (apply hvr; (repeat first | exact In.here | apply In.there | apply In.skip)); rintro _ _ ⟨rfl, rfl⟩)
 | (apply GC_seqK; intro K hK)
 | (apply hK; clear hK K)
 | (apply GC_region)
 | (apply GL_nil)
 | (apply thenG_normal)
 | (apply thenG_ret)
 | (apply GC_ret)
 | (apply GC_if_true; eq_refl)
 | (apply retGC1r; eq_refl; (repeat first | exact In.here | apply In.there | apply In.skip); eq_refl; eq_refl)
 | (apply GL_on; eq_refl; eq_refl)
 | (apply G_pv; eq_refl; first | exact trivial | omega)
 | (apply G_ldW; eq_refl; (repeat first | exact In.here | apply In.there | apply In.skip); eq_refl)
 | (apply G_cmpT; eq_refl; eq_refl; omega)
 | (apply G_alloc; eq_refl; intro _)
 | (apply G_box; eq_refl; eq_refl; intro _)
 | (apply G_stW; (first | exact wr_p | kernel_rfl); eq_refl; eq_refl; eq_refl; eq_refl; (repeat first | exact Upd.here | apply Upd.there | apply Upd.skip); eq_refl)
 | (apply GX_pure; apply build34_))
    exact ⟨[.vec encS 1 67 none 0 [], .any (bun (fam rowJ []))], Wk.nilv (rows_nil (by repeat first | exact Wk.nil | exact Wk.refl | (apply Wk.cons; (focus ((repeat first | exact Rem.here | apply Rem.there | apply Rem.skip); done))) | apply Wk.nilv | apply Wk.last | apply Wk.drop)), [], none, 0, rfl, rfl, rfl⟩
end SC
end Go.Proofs.Ytbmngkdnebklpaa
end
section
/- The reference's Run. -/
set_option linter.unusedVariables false
set_option linter.unusedSimpArgs false
namespace Go.Proofs.Ytbmngkdnebklpaa
namespace SC
open Go.Proofs
attribute [local irreducible] WC WL WX WS WO OX Does DoesU Enters CV Pure thenQ blockQ retQ Wants retQC GC GL GS GX RdB thenG blockG retG Rd At gt CVN CVM
set_option maxRecDepth 100000
end SC
end Go.Proofs.Ytbmngkdnebklpaa
end
section
/- trestlelaw16: works, cost. -/
set_option linter.unusedVariables false
set_option linter.unusedSimpArgs false
namespace Go.Proofs.Ytbmngkdnebklpaa
namespace SC
open Go.Proofs
def cLt : Circ := ⟨1, [], [(2, 3, 0)], [], [], [], [], [], [], [], []⟩
theorem cLt_sizes : sizesM cLt = 0 := by
  unfold sizesM
  rw [if_neg (by simp [cLt]), if_neg]
  simp [cLt, Circ.lens, sumW, sumL]; decide
theorem cLt_defs : definesM cLt (T0 cLt) = ((0, 0), [(0, 0), (2, 0)]) := by decide
theorem cLt_tab : tabM cLt = [(0, 0), (2, 0)] := by unfold tabM; rw [cLt_defs]
theorem cLt_uses : usesM cLt (tabM cLt) = (0, 0) := by rw [cLt_tab]; decide
theorem cLt_all : All 0 (gateB (tabM cLt) cLt) [] := ⟨.nil, fun x hx => by have := hx.rg; unfold rg at this; omega⟩
theorem cLt_look : (lookM cLt).2 = 0 := by
  have hc : cycM cLt.ands.length (gateB (tabM cLt) cLt) = -1 := cycM_eq ⟨[], cLt_all, .inl ⟨rfl, rfl⟩⟩
  unfold lookM
  rw [cLt_sizes, cLt_defs, cLt_uses, hc]
  simp [cLt, goSym, goCom]
theorem cLt_sane : cLt.Sane := ⟨by simp [cLt], by simp [cLt], by simp [cLt], by simp [cLt], by simp [cLt], by simp [cLt]⟩
theorem cLt_okay : cLt.Okay := ⟨by simp [cLt, Circ.lens], by simp [cLt], (by intro x hx; simp [cLt] at hx; subst hx; simp [TriFits, fit64, fits]), by simp [cLt], by simp [cLt]⟩
theorem cLt_fits : cLt.Fits := ⟨by simp [cLt], by simp [cLt], by simp [cLt], by simp [cLt], by simp [cLt], by simp [cLt], by simp [cLt], by simp [cLt], by simp [cLt], by simp [cLt], by simp [cLt]⟩
def hLt (a : Nat) : Hd := fun | 2 => (some ⟨a, 0, none⟩, 1) | _ => (none, 0)
theorem cLt_in {w : World} {a : Nat} (ha : Blk w a 58 [nu 2, nu 3, nu 0]) : CirIn w cLt (hLt a) hNil :=
  ⟨⟨RowA.emp, RowA.blk (l := [(2, 3, 0)]) tlen ha, RowA.emp, RowA.emp, RowA.emp, fun k hk => absurd hk (Nat.not_lt_zero _), fun k hk => absurd hk (Nat.not_lt_zero _), RowA.emp, RowA.emp, RowA.emp, RowA.emp⟩, cLt_sane, cLt_okay, cLt_fits⟩
theorem cLt_ltE : ltE cLt 3 3 = 0 := by
  rw [ltE_in cLt_look (by decide)]
  exact ftE_ok cLt_look (by decide) (by decide)
theorem cLt_ltM : ltM cLt 3 3 = -5 := by rw [ltM_ok cLt_ltE]; decide
theorem cLt_vrE : vrE cLt 2 = 0 := vrE_ok cLt_look (by decide) (by decide)
theorem cLt_rnE : rnE cLt 2 = 0 := rnE_ok cLt_vrE (by unfold rnN; decide)
theorem cLt_rnV : rnV cLt 2 = 3 := by rw [rnV_ok cLt_rnE]; decide
theorem cLt_rnL : rnL cLt 2 = [[-1], [-2], [-3, -2], [3, 2]] := by rw [rnL_ok cLt_rnE]; decide
theorem cost_cv {w : World} {c : Circ} {h : Hd} {n : Int} : CVN Try.prog 9 [.agg (ccells c h).toArray, nu n] w fun v N => N = [] ∧ v = .bool (decide (40 < n ∧ 30 < c.max)) := by
  refine CVN.enter 12 [4] Try.func9 rfl rfl rfl (by decide) rfl ?_
  by_cases h1 : 40 < n
  · by_cases h2 : 30 < c.max
    · rw [decide_eq_true ⟨h1, h2⟩]
      repeat' (first
 | (apply GC_seqK; intro K hK)
 | (apply hK; clear hK K)
 | (apply GC_region)
 | (apply GL_nil)
 | (apply GC_ret)
 | (apply retG1; eq_refl)
 | (apply GL_on; eq_refl; eq_refl)
 | (apply G_pv; eq_refl; first | exact trivial | omega)
 | (apply G_field; eq_refl)
 | (apply G_ld; eq_refl; (repeat first | exact In.here | apply In.there | apply In.skip); eq_refl)
 | (apply G_cmpT; eq_refl; eq_refl; omega)
 | (apply G_box; eq_refl; eq_refl; intro _))
      exact ⟨[], (by repeat first | exact Wk.nil | exact Wk.refl | (apply Wk.cons; (focus ((repeat first | exact Rem.here | apply Rem.there | apply Rem.skip); done))) | apply Wk.nilv | apply Wk.last | apply Wk.drop), rfl, rfl⟩
    · rw [decide_eq_false (fun h => h2 h.2)]
      repeat' (first
 | (apply GC_seqK; intro K hK)
 | (apply hK; clear hK K)
 | (apply GC_region)
 | (apply GL_nil)
 | (apply GC_ret)
 | (apply retG1; eq_refl)
 | (apply GL_on; eq_refl; eq_refl)
 | (apply G_pv; eq_refl; first | exact trivial | omega)
 | (apply G_field; eq_refl)
 | (apply G_ld; eq_refl; (repeat first | exact In.here | apply In.there | apply In.skip); eq_refl)
 | (apply G_cmpT; eq_refl; eq_refl; omega)
 | (apply G_cmpF; eq_refl; eq_refl; omega)
 | (apply G_box; eq_refl; eq_refl; intro _))
      exact ⟨[], (by repeat first | exact Wk.nil | exact Wk.refl | (apply Wk.cons; (focus ((repeat first | exact Rem.here | apply Rem.there | apply Rem.skip); done))) | apply Wk.nilv | apply Wk.last | apply Wk.drop), rfl, rfl⟩
  · rw [decide_eq_false (fun h => h1 h.1)]
    repeat' (first
 | (apply GC_seqK; intro K hK)
 | (apply hK; clear hK K)
 | (apply GC_region)
 | (apply GL_nil)
 | (apply GC_ret)
 | (apply retG1; eq_refl)
 | (apply GL_on; eq_refl; eq_refl)
 | (apply GL_off; eq_refl; eq_refl)
 | (apply G_pv; eq_refl; first | exact trivial | omega)
 | (apply G_cmpF; eq_refl; eq_refl; omega)
 | (apply G_box; eq_refl; eq_refl; intro _))
    exact ⟨[], (by repeat first | exact Wk.nil | exact Wk.refl | (apply Wk.cons; (focus ((repeat first | exact Rem.here | apply Rem.there | apply Rem.skip); done))) | apply Wk.nilv | apply Wk.last | apply Wk.drop), rfl, rfl⟩
attribute [local irreducible] WC WL WX WS WO OX Does DoesU Enters CV Pure thenQ blockQ retQ Wants retQC GC GL GS GX RdB thenG blockG retG Rd At CVN CVM
set_option maxRecDepth 100000
set_option maxHeartbeats 800000 in
theorem works16_cv {w : World} : CVN Try.prog 8 [] w fun v N => N = [] ∧ v = .bool true := by
  have hlt : ∀ Γ a, In Γ (.box a 58 [nu 2, nu 3, nu 0]) → ∀ w', Mem w' Γ → CVN Try.prog 19 [.agg (ccells cLt (hLt a)).toArray, nu 3, nu 3] w' fun v N => N = [] ∧ v = .tuple #[nu (-5), nu 0] := fun Γ a h1 w' M => by
    have := LitP16_cv (l := 3) (t := 3) (cLt_in (h1.box M)) (by decide)
    rwa [cLt_ltM, cLt_ltE] at this
  have hrun : ∀ Γ a, In Γ (.box a 58 [nu 2, nu 3, nu 0]) → ∀ w', Mem w' Γ → CVN Try.prog 10 [.agg (ccells cLt (hLt a)).toArray, nu 2] w' fun v N => ∃ (h0 h1 h2 h3 : Hdl) (A : Option Addr) (k : Nat), v = .tuple #[.agg #[nu 3, .slice A 4 k], nu 0] ∧ N = [.vec icell 1 3 h3.1 h3.2 [3, 2], .vec icell 1 3 h2.1 h2.2 [-3, -2], .vec icell 1 3 h1.1 h1.2 [-2], .vec icell 1 3 h0.1 h0.2 [-1], .vec encS 1 67 A k [(h0, [-1]), (h1, [-2]), (h2, [-3, -2]), (h3, [3, 2])]] := fun Γ a h1 w' M => by
    refine (RunP16_cv (n := 2) (cLt_in (h1.box M))).wk ?_
    rintro v N ⟨ps, A, k, rfl, hps, rfl⟩
    rw [cLt_rnL] at hps
    rw [cLt_rnV, cLt_rnE]
    match ps, hps with
    | [(q0, l0), (q1, l1), (q2, l2), (q3, l3)], hps =>
      simp only [List.map_cons, List.map_nil, List.cons.injEq, and_true] at hps
      obtain ⟨rfl, rfl, rfl, rfl⟩ := hps
      exact ⟨_, Wk.part (.cons (.there .here) .nil) bun_out .refl, q0, q1, q2, q3, A, k, rfl, rfl⟩
    | [], hps => simp at hps
    | [_], hps => simp at hps
    | [_, _], hps => simp at hps
    | [_, _, _], hps => simp at hps
    | _ :: _ :: _ :: _ :: _ :: _, hps => simp at hps
  refine CVN.enter 66 [0] Try.func8 rfl rfl rfl (by decide) rfl ?_
  repeat' (first
 | (apply G_cmpT; eq_refl; eq_refl; (exact rfl))
 | (apply G_ix; eq_refl; eq_refl; (first | (apply Rd.own; (repeat first | exact In.here | apply In.there | apply In.skip); infer_instance) | (apply Rd.old; (repeat first | exact In.here | apply In.there | apply In.skip); assumption) | (apply Rd.oldR; (repeat first | exact In.here | apply In.there | apply In.skip); assumption) | exact Rd.nil | assumption); eq_refl; (focus simp); (first | (exact (show (0 : Int) < ((2 : Nat) : Int) by decide)) | (exact (show (1 : Int) < ((2 : Nat) : Int) by decide)) | (exact (show (2 : Int) < ((4 : Nat) : Int) by decide))))
 | (apply G_rd; eq_refl; (first | (apply Rd.own; (repeat first | exact In.here | apply In.there | apply In.skip); infer_instance) | (apply Rd.old; (repeat first | exact In.here | apply In.there | apply In.skip); assumption) | (apply Rd.oldR; (repeat first | exact In.here | apply In.there | apply In.skip); assumption) | exact Rd.nil | assumption); (case ih => infer_instance); (focus simp); (first | (exact (show (0 : Int) < ((2 : Nat) : Int) by decide)) | (exact (show (1 : Int) < ((2 : Nat) : Int) by decide)) | (exact (show (2 : Int) < ((4 : Nat) : Int) by decide))); eq_refl)
 | (apply G_call; eq_refl; eq_refl; (apply hlt; (repeat first | exact In.here | apply In.there | apply In.skip)); rintro _ _ ⟨rfl, rfl⟩)
 | (apply G_call; eq_refl; eq_refl; (apply hrun; (repeat first | exact In.here | apply In.there | apply In.skip)); rintro _ _ ⟨h0, h1, h2, h3, A, k, rfl, rfl⟩)
 | (apply GC_seqK; intro K hK)
 | (apply hK; clear hK K)
 | (apply GC_region)
 | (apply GL_nil)
 | (apply thenG_normal)
 | (apply GC_ret)
 | (apply retG1; eq_refl)
 | (apply GL_on; eq_refl; eq_refl)
 | (apply G_pv; eq_refl; first | exact trivial | omega)
 | (apply G_field; eq_refl)
 | (apply G_ld; eq_refl; (repeat first | exact In.here | apply In.there | apply In.skip); eq_refl)
 | (apply G_ldW; eq_refl; (repeat first | exact In.here | apply In.there | apply In.skip); eq_refl)
 | (apply G_len; eq_refl)
 | (apply G_alloc; eq_refl; intro _)
 | (apply G_stW; (first | exact wr_p | kernel_rfl); eq_refl; eq_refl; eq_refl; eq_refl; (repeat first | exact Upd.here | apply Upd.there | apply Upd.skip); eq_refl)
 | (apply GX_pure; apply build58_0_1 <;> eq_refl)
 | (apply GX_pure; apply build29_0_2 <;> eq_refl)
 | (apply G_new (fun b => .slice (some ⟨b, 0, none⟩) 1 1); eq_refl; (intro _; apply buildS23_1 <;> eq_refl); intro _))
  exact ⟨[], (by repeat first | exact Wk.nil | exact Wk.refl | (apply Wk.cons; (focus ((repeat first | exact Rem.here | apply Rem.there | apply Rem.skip); done))) | apply Wk.nilv | apply Wk.last | apply Wk.drop), rfl, rfl⟩
end SC
end Go.Proofs.Ytbmngkdnebklpaa
end
section
/- trestlelaw16: FramesRuns, FramesParts: the walks. -/
set_option linter.unusedVariables false
set_option linter.unusedSimpArgs false
namespace Go.Proofs.Ytbmngkdnebklpaa
namespace SC
open Go.Proofs
theorem CnfAt.bun {Γ : Mm} {w : World} {A : Option Addr} {k : Nat} {ps : List (Hdl × List Int)} (hi : In Γ (.any (bun (cnB ps A k)))) (M : Mem w Γ) : CnfAt w A ps := by
  have M' := hi.bun M
  refine ⟨(In.here (E := .vec encS 1 67 A k ps) (Γ := fam rowJ ps)).row M', fun p hp => ?_⟩
  have hE := fam_mem (f := rowJ) hp (E := .vec icell 1 3 p.1.1 p.1.2 p.2) (by unfold rowJ; simp)
  exact (In.there (In.of hE)).row M'
theorem cnB_in {ps : List (Hdl × List Int)} {A : Option Addr} {k : Nat} : Wk [.vec encS 1 67 A k ps, .any (bun (fam rowJ ps))] [.any (bun (cnB ps A k))] := by
  refine Wk.trans ?_ bun_in
  exact (Wk.part (D := fam rowJ ps) (.cons (.there .here) .nil) bun_out .refl).trans (Wk.perm List.perm_append_comm)
/-- A formula, bound together; clauses, bound together. -/
def CnfB (V : Int) (m : List (List Int)) (ε : Int) (v : Value) (N : Mm) : Prop := ∃ ps A k, v = .tuple #[.agg #[nu V, .slice A ps.length k], nu ε] ∧ ps.map (·.2) = m ∧ N = [.any (bun (cnB ps A k))]
theorem CnfT.to {P : Program} {f : FuncId} {args : List Value} {w : World} {V ε : Int} {m : List (List Int)} (h : CVN P f args w (CnfT V m ε)) : CVN P f args w (CnfB V m ε) := h.wk fun v N ⟨ps, A, k, e1, e2, e3⟩ => ⟨_, by rw [e3]; exact cnB_in, ps, A, k, e1, e2, rfl⟩
theorem CVM.same {P : Program} {f : FuncId} {args : List Value} {w : World} {C C' : Mm} {R : Value → Mm → Prop} (h : CVM P f args w C' R) (he : ∀ k, owns C' k ↔ owns C k) : CVM P f args w C R := by
  have e : owns C' = owns C := funext fun k => propext (he k)
  unfold CVM at h ⊢
  rw [e] at h
  exact h
theorem rnL_len {c : Circ} {n : Int} (h : rnE c n = 0) : ((rnL c n).length : Int) = rnN c n := by
  obtain ⟨hv, _⟩ := rnE_zero h
  obtain ⟨_, n1, _, _⟩ := vrE_zero hv
  obtain ⟨j, rfl⟩ : ∃ j : Nat, n = (j : Int) + 1 := ⟨(n - 1).toNat, by omega⟩
  rw [rnL_ok h, show ((j : Int) + 1 - 1).toNat = j by omega, runS_len]
  unfold rnN
  rw [show 2 * ((j : Int) + 1 - 1) * (c.latches.length : Int) = (j : Int) * (2 * (c.latches.length : Int)) by rw [show (j : Int) + 1 - 1 = j by omega, Int.mul_comm 2 (j : Int), Int.mul_assoc]]
  simp only [Int.natCast_add, Int.natCast_mul]
  rfl
attribute [local irreducible] WC WL WX WS WO OX Does DoesU Enters CV Pure thenQ blockQ retQ Wants retQC GC GL GS GX RdB thenG blockG retG Rd At gt CVN CVM
attribute [local irreducible] lentX bun
set_option maxRecDepth 100000
end SC
end Go.Proofs.Ytbmngkdnebklpaa
end
section
/- A formula is the circuit, step by step: the plain law. -/
set_option linter.unusedVariables false
set_option linter.unusedSimpArgs false
namespace Go.Proofs.Ytbmngkdnebklpaa
namespace SC
open Go.Proofs
theorem use_var {c : Circ} (R : Right c) {l : Int} (hu : useOk c (tabM c) l) : l / 2 = 0 ∨ (∃ j : Nat, j < c.inputs.length ∧ gt c.inputs (j : Int) / 2 = l / 2) ∨ (∃ j : Nat, j < c.latches.length ∧ (gt c.latches (j : Int)).1 / 2 = l / 2) ∨ ∃ j : Nat, j < c.ands.length ∧ (gt c.ands (j : Int)).1 / 2 = l / 2 := by
  obtain ⟨h0, h1, h2⟩ := hu
  have hT := R.tab
  have hlen := hT.len
  by_cases hl : 1 < l
  · have hlt : (l / 2).toNat < (tabM c).length := by omega
    have hm : (tabM c)[(l / 2).toNat]? = some (tabM c)[(l / 2).toNat] := List.getElem?_eq_getElem hlt
    have hk := h2 hl
    rcases hT.only _ _ hm with e | ⟨j, hj, e1, _⟩ | ⟨j, hj, e1, _⟩ | ⟨j, hj, e1, _⟩
    · exfalso
      rw [e] at hm
      exact hk (kindAt_get hm)
    · exact .inr (.inl ⟨j, hj, by rw [gt_nat hj, e1]; omega⟩)
    · exact .inr (.inr (.inl ⟨j, hj, by rw [gt_nat hj, e1]; omega⟩))
    · exact .inr (.inr (.inr ⟨j, hj, by rw [gt_nat hj, e1]; omega⟩))
  · exact .inl (by omega)
/-- Two lists of values that are the same where something defines a variable. -/
structure Agr (c : Circ) (u v : List Bool) : Prop where
  zero : gt u 0 = gt v 0
  inp : ∀ i : Nat, i < c.inputs.length → gt u (gt c.inputs (i : Int) / 2) = gt v (gt c.inputs (i : Int) / 2)
  lat : ∀ i : Nat, i < c.latches.length → gt u ((gt c.latches (i : Int)).1 / 2) = gt v ((gt c.latches (i : Int)).1 / 2)
  and : ∀ i : Nat, i < c.ands.length → gt u ((gt c.ands (i : Int)).1 / 2) = gt v ((gt c.ands (i : Int)).1 / 2)
theorem Agr.lv {c : Circ} {u v : List Bool} (R : Right c) (h : Agr c u v) {l : Int} (hl : useOk c (tabM c) l) : lv u l = lv v l := by
  unfold SC.lv
  congr 1
  rcases use_var R hl with e | ⟨j, hj, e⟩ | ⟨j, hj, e⟩ | ⟨j, hj, e⟩
  · rw [e]; exact h.zero
  · rw [← e]; exact h.inp j hj
  · rw [← e]; exact h.lat j hj
  · rw [← e]; exact h.and j hj
theorem gate_use {c : Circ} (R : Right c) {i : Int} (h0 : 0 ≤ i) (h1 : i < c.ands.length) : useOk c (tabM c) (gt c.ands i).2.1 ∧ useOk c (tabM c) (gt c.ands i).2.2 := R.use.ands _ (gt_mem h0 h1)
theorem val_only {c : Circ} (R : Right c) {s r u v : List Bool} (hu : ValOk c s r u) (hv : ValOk c s r v) : Agr c u v := by
  have hz : gt u 0 = gt v 0 := by rw [hu.zero, hv.zero]
  have hi : ∀ i : Nat, i < c.inputs.length → gt u (gt c.inputs (i : Int) / 2) = gt v (gt c.inputs (i : Int) / 2) := fun i h => by rw [hu.inp i h, hv.inp i h]
  have hl : ∀ i : Nat, i < c.latches.length → gt u ((gt c.latches (i : Int)).1 / 2) = gt v ((gt c.latches (i : Int)).1 / 2) := fun i h => by rw [hu.lat i h, hv.lat i h]
  have key : ∀ n j : Nat, j < n → j < (ordM c).length → gt u ((gt c.ands (gt (ordM c) (j : Int))).1 / 2) = gt v ((gt c.ands (gt (ordM c) (j : Int))).1 / 2) := by
    intro n
    induction n with
    | zero => intro j hj; omega
    | succ n ih =>
      intro j hj hjl
      by_cases hjn : j < n
      · exact ih j hjn hjl
      · have ho := R.ord (gt_mem (l := ordM c) (i := (j : Int)) (by omega) (by omega))
        have au := hu.and (gt (ordM c) (j : Int)).toNat (by omega)
        have av := hv.and (gt (ordM c) (j : Int)).toNat (by omega)
        rw [show (((gt (ordM c) (j : Int)).toNat : Nat) : Int) = gt (ordM c) (j : Int) by omega] at au av
        have one : ∀ l : Int, l = (gt c.ands (gt (ordM c) (j : Int))).2.1 ∨ l = (gt c.ands (gt (ordM c) (j : Int))).2.2 → useOk c (tabM c) l → lv u l = lv v l := fun l hl2 huse => by
          unfold SC.lv
          congr 1
          rcases use_var R huse with e | ⟨i, h, e⟩ | ⟨i, h, e⟩ | ⟨i, h, e⟩
          · rw [e]; exact hz
          · rw [← e]; exact hi i h
          · rw [← e]; exact hl i h
          · obtain ⟨q, hq, eq⟩ := List.mem_iff_getElem.1 (R.ordAll h)
            have e2 : gt (ordM c) (q : Int) = (i : Int) := by rw [gt_nat hq]; exact eq
            have hlow := R.low hjl (l := l) (by rw [gt_nat hjl] at hl2; exact hl2) hq (by rw [← e, ← e2, gt_nat hq]; rfl)
            rw [← e, ← e2]
            exact ih q (by omega) hq
        obtain ⟨u1, u2⟩ := gate_use R ho.1 ho.2
        rw [au, av, one _ (.inl rfl) u1, one _ (.inr rfl) u2]
  refine ⟨hz, hi, hl, fun i h => ?_⟩
  obtain ⟨q, hq, eq⟩ := List.mem_iff_getElem.1 (R.ordAll h)
  have := key (q + 1) q (Nat.lt_succ_self q) hq
  rwa [gt_nat hq, eq] at this
/-! ### truth of literals, clauses, formulas -/
def litT (v : List Bool) (x : Int) : Bool := if x < 0 then !(gt v (-x - 1)) else gt v (x - 1)
def clT (v : List Bool) (cl : List Int) : Bool := cl.any (litT v)
def cnfT (v : List Bool) (m : List (List Int)) : Bool := m.all (clT v)
theorem cnfT_app (v : List Bool) (a b : List (List Int)) : cnfT v (a ++ b) = (cnfT v a && cnfT v b) := by unfold cnfT; rw [List.all_append]
theorem cnfT_flat {α : Type} (v : List Bool) (f : α → List (List Int)) (l : List α) : cnfT v (l.flatMap f) = l.all fun x => cnfT v (f x) := by unfold cnfT; rw [List.all_flatMap]
theorem lv_even {v : List Bool} {l : Int} (h : l % 2 = 0) : lv v l = gt v (l / 2) := by
  unfold lv
  rw [h]
  simp
/-- The values of one step out of a model. -/
def cut (mx : Int) (md : List Bool) (k : Nat) : List Bool := gt md 0 :: (md.drop (k * mx.toNat + 1)).take mx.toNat
theorem cut_gt {mx : Int} {md : List Bool} {k : Nat} {x : Int} (h1 : 1 ≤ x) (h2 : x ≤ mx) : gt (cut mx md k) x = gt md ((k : Int) * mx + x) := by
  obtain ⟨j, rfl⟩ : ∃ j : Nat, x = (j : Int) + 1 := ⟨(x - 1).toNat, by omega⟩
  obtain ⟨M, rfl⟩ : ∃ M : Nat, mx = (M : Int) := ⟨mx.toNat, by omega⟩
  have e1 : ((j : Int) + 1).toNat = j + 1 := by omega
  have e2 : ((k : Int) * (M : Int) + ((j : Int) + 1)).toNat = k * M + 1 + j := by
    rw [← Int.natCast_mul]
    omega
  rw [gtB, gtB, e1, e2]
  unfold cut
  rw [Int.toNat_natCast, List.getD_cons_succ, List.getD_eq_getElem?_getD, List.getElem?_take, if_pos (by omega), List.getElem?_drop, List.getD_eq_getElem?_getD]
theorem cut_zero {mx : Int} {md : List Bool} {k : Nat} : gt (cut mx md k) 0 = gt md 0 := rfl
theorem cut_len {mx : Int} {md : List Bool} {k n : Nat} (h : md.length = 1 + (n + 1) * mx.toNat) (hk : k ≤ n) (hm : 0 ≤ mx) : (cut mx md k).length = (mx + 1).toNat := by
  unfold cut
  have : (k + 1) * mx.toNat ≤ (n + 1) * mx.toNat := Nat.mul_le_mul_right _ (by omega)
  rw [Nat.succ_mul] at this
  rw [List.length_cons, List.length_take, List.length_drop]
  omega
theorem litT_at {mx : Int} {md : List Bool} {k : Nat} {l : Int} (h0 : 0 ≤ l) (h1 : l ≤ 2 * mx + 1) : litT md (atM mx l (k : Int)) = lv (cut mx md k) l ∧ litT md (-atM mx l (k : Int)) = !lv (cut mx md k) l := by
  have hz : 0 ≤ (k : Int) * mx := Int.mul_nonneg (by omega) (by omega)
  obtain ⟨v, hv, hp, he⟩ : ∃ v, (if 0 < l / 2 then 1 + (k : Int) * mx + l / 2 else 1) = v ∧ 1 ≤ v ∧ gt md (v - 1) = gt (cut mx md k) (l / 2) := by
    by_cases hl : 0 < l / 2
    · refine ⟨_, if_pos hl, by omega, ?_⟩
      rw [cut_gt (by omega) (by omega)]
      congr 1
      omega
    · refine ⟨_, if_neg hl, by omega, ?_⟩
      rw [show l / 2 = 0 by omega]
      rfl
  unfold atM
  rw [hv]
  unfold litT lv
  rw [← he]
  by_cases ho : l % 2 = 1
  · rw [if_pos ho, if_pos (by omega), if_neg (by omega), show - -v - 1 = v - 1 by omega, decide_eq_true ho]
    cases gt md (v - 1) <;> exact ⟨rfl, rfl⟩
  · rw [if_neg ho, if_neg (by omega), if_pos (by omega), show - -v - 1 = v - 1 by omega, decide_eq_false ho]
    cases gt md (v - 1) <;> exact ⟨rfl, rfl⟩
section
variable {c : Circ} {md : List Bool} {k : Nat}
theorem gateS_true {x : Tri} (g : inR c x.1 ∧ inR c x.2.1 ∧ inR c x.2.2) : cnfT md (gateS c.max (k : Int) x) = (lv (cut c.max md k) x.1 == (lv (cut c.max md k) x.2.1 && lv (cut c.max md k) x.2.2)) := by
  obtain ⟨⟨a0, a1⟩, ⟨b0, b1⟩, ⟨c0, c1⟩⟩ := g
  obtain ⟨e1, e2⟩ := litT_at (md := md) (k := k) a0 a1
  obtain ⟨e3, e4⟩ := litT_at (md := md) (k := k) b0 b1
  obtain ⟨e5, e6⟩ := litT_at (md := md) (k := k) c0 c1
  unfold cnfT gateS clT
  simp only [List.all_cons, List.all_nil, List.any_cons, List.any_nil, e1, e2, e3, e4, e5, e6]
  cases lv (cut c.max md k) x.1 <;> cases lv (cut c.max md k) x.2.1 <;> cases lv (cut c.max md k) x.2.2 <;> rfl
theorem nxtS_true {x : Tri} (g : inR c x.1 ∧ inR c x.2.1) : cnfT md (nxtS c.max (k : Int) x) = (lv (cut c.max md (k + 1)) x.1 == lv (cut c.max md k) x.2.1) := by
  obtain ⟨⟨a0, a1⟩, ⟨b0, b1⟩⟩ := g
  obtain ⟨e1, e2⟩ := litT_at (md := md) (k := k + 1) a0 a1
  obtain ⟨e3, e4⟩ := litT_at (md := md) (k := k) b0 b1
  rw [show ((k + 1 : Nat) : Int) = (k : Int) + 1 by omega] at e1 e2
  unfold cnfT nxtS clT
  simp only [List.all_cons, List.all_nil, List.any_cons, List.any_nil, e1, e2, e3, e4]
  cases lv (cut c.max md (k + 1)) x.1 <;> cases lv (cut c.max md k) x.2.1 <;> rfl
theorem rstS_true {x : Tri} (g : inR c x.1) : cnfT md (rstS c.max x) = okSt x (lv (cut c.max md 0) x.1) := by
  obtain ⟨e1, e2⟩ := litT_at (md := md) (k := 0) g.1 g.2
  rw [show ((0 : Nat) : Int) = 0 by omega] at e1 e2
  unfold rstS okSt
  by_cases h0 : x.2.2 = 0
  · rw [if_pos h0]
    unfold cnfT clT
    simp only [List.all_cons, List.all_nil, List.any_cons, List.any_nil, e2, h0]
    cases lv (cut c.max md 0) x.1 <;> rfl
  · rw [if_neg h0]
    by_cases h1 : x.2.2 = 1
    · rw [if_pos h1]
      unfold cnfT clT
      simp only [List.all_cons, List.all_nil, List.any_cons, List.any_nil, e1, h1]
      cases lv (cut c.max md 0) x.1 <;> rfl
    · rw [if_neg h1, decide_eq_true h0, decide_eq_true h1]
      rfl
theorem stepS_true (R : Right c) : cnfT md (stepS c (k : Int)) = true ↔ (∀ i : Nat, i < c.ands.length → gt (cut c.max md k) ((gt c.ands (i : Int)).1 / 2) = (lv (cut c.max md k) (gt c.ands (i : Int)).2.1 && lv (cut c.max md k) (gt c.ands (i : Int)).2.2)) ∧ c.constraints.all (lv (cut c.max md k)) = true := by
  unfold stepS
  rw [cnfT_app, Bool.and_eq_true]
  refine and_congr ?_ ?_
  · unfold gatesS
    rw [cnfT_flat, List.all_eq_true]
    constructor
    · intro h i hi
      have hm := gt_mem (l := c.ands) (i := (i : Int)) (by omega) (by omega)
      obtain ⟨g1, g2, g3⟩ := R.gate hm
      have := h _ hm
      rw [gateS_true ⟨g1.in, g2, g3⟩, lv_even (by unfold defR at g1; omega)] at this
      exact eq_of_beq this
    · intro h x hx
      obtain ⟨i, hi, rfl⟩ := List.mem_iff_getElem.1 hx
      obtain ⟨g1, g2, g3⟩ := R.gate (List.getElem_mem hi)
      have := h i hi
      rw [gt_nat hi] at this
      rw [gateS_true ⟨g1.in, g2, g3⟩, lv_even (by unfold defR at g1; omega), this]
      exact beq_self_eq_true _
  · unfold consS cnfT
    rw [List.all_map, List.all_eq_true, List.all_eq_true]
    refine forall_congr' fun l => forall_congr' fun hl => ?_
    have g := R.con hl
    show clT md [atM c.max l (k : Int)] = true ↔ _
    unfold clT
    simp only [List.any_cons, List.any_nil, Bool.or_false, (litT_at (md := md) (k := k) g.1 g.2).1]
theorem nextS_true (R : Right c) : cnfT md (nextS c (k : Int)) = true ↔ ∀ i : Nat, i < c.latches.length → gt (cut c.max md (k + 1)) ((gt c.latches (i : Int)).1 / 2) = lv (cut c.max md k) (gt c.latches (i : Int)).2.1 := by
  unfold nextS
  rw [cnfT_flat, List.all_eq_true]
  constructor
  · intro h i hi
    have hm := gt_mem (l := c.latches) (i := (i : Int)) (by omega) (by omega)
    obtain ⟨g1, g2, _⟩ := R.lat hm
    have := h _ hm
    rw [nxtS_true ⟨g1.in, g2⟩, lv_even (by unfold defR at g1; omega)] at this
    exact eq_of_beq this
  · intro h x hx
    obtain ⟨i, hi, rfl⟩ := List.mem_iff_getElem.1 hx
    obtain ⟨g1, g2, _⟩ := R.lat (List.getElem_mem hi)
    have := h i hi
    rw [gt_nat hi] at this
    rw [nxtS_true ⟨g1.in, g2⟩, lv_even (by unfold defR at g1; omega), this]
    exact beq_self_eq_true _
theorem firstS_true (R : Right c) {s : List Bool} (hs : ∀ i : Nat, i < c.latches.length → gt s (i : Int) = gt (cut c.max md 0) ((gt c.latches (i : Int)).1 / 2)) : cnfT md (firstS c) = startsM c s c.latches.length := by
  rw [Bool.eq_iff_iff]
  unfold firstS startsM
  rw [cnfT_flat, List.all_eq_true, List.all_eq_true]
  constructor
  · intro h i hi
    have hi := List.mem_range.1 hi
    have hm := gt_mem (l := c.latches) (i := (i : Int)) (by omega) (by omega)
    obtain ⟨g1, _⟩ := R.lat hm
    have := h _ hm
    rw [rstS_true g1.in, lv_even (by unfold defR at g1; omega)] at this
    rw [hs i hi]
    exact this
  · intro h x hx
    obtain ⟨i, hi, rfl⟩ := List.mem_iff_getElem.1 hx
    obtain ⟨g1, _⟩ := R.lat (List.getElem_mem hi)
    have := h i (List.mem_range.2 hi)
    rw [hs i hi, gt_nat hi] at this
    rw [rstS_true g1.in, lv_even (by unfold defR at g1; omega)]
    exact this
/-- What a formula of some steps says. -/
theorem runS_true (md : List Bool) : ∀ n : Nat, cnfT md (runS c n) = true ↔ gt md 0 = false ∧ cnfT md (firstS c) = true ∧ (∀ k ≤ n, cnfT md (stepS c (k : Int)) = true) ∧ ∀ k < n, cnfT md (nextS c (k : Int)) = true
  | 0 => by
    show cnfT md ([[-1]] ++ firstS c ++ stepS c 0) = true ↔ _
    have e : cnfT md [[-1]] = !gt md 0 := by unfold cnfT clT litT; simp
    rw [cnfT_app, cnfT_app, e, Bool.and_eq_true, Bool.and_eq_true]
    constructor
    · rintro ⟨⟨h1, h2⟩, h3⟩
      exact ⟨by simpa using h1, h2, fun k hk => by obtain rfl : k = 0 := by omega
                                                   exact h3, fun k hk => absurd hk (Nat.not_lt_zero _)⟩
    · rintro ⟨h1, h2, h3, _⟩
      exact ⟨⟨by simp [h1], h2⟩, h3 0 (Nat.le_refl _)⟩
  | n + 1 => by
    show cnfT md (runS c n ++ nextS c (n : Int) ++ stepS c ((n : Int) + 1)) = true ↔ _
    rw [cnfT_app, cnfT_app, Bool.and_eq_true, Bool.and_eq_true, runS_true md n]
    constructor
    · rintro ⟨⟨⟨h1, h2, h3, h4⟩, h5⟩, h6⟩
      refine ⟨h1, h2, fun k hk => ?_, fun k hk => ?_⟩
      · rcases Nat.lt_or_ge k (n + 1) with h | h
        · exact h3 k (by omega)
        · obtain rfl : k = n + 1 := by omega
          exact h6
      · rcases Nat.lt_or_ge k n with h | h
        · exact h4 k h
        · obtain rfl : k = n := by omega
          exact h5
    · rintro ⟨h1, h2, h3, h4⟩
      exact ⟨⟨⟨h1, h2, fun k hk => h3 k (by omega), fun k hk => h4 k (by omega)⟩, h4 n (by omega)⟩, h3 (n + 1) (Nat.le_refl _)⟩
/-- The values of a step of a run. -/
noncomputable def vk (c : Circ) (t : Trc) (k : Nat) : List Bool := valM c (stM c t k) (gt t.rows (k : Int)).2
theorem stM_gt {t : Trc} {i : Nat} (hi : i < c.latches.length) : gt (stM c t (k + 1)) (i : Int) = lv (vk c t k) (gt c.latches (i : Int)).2.1 := by
  show gt (nxtM c (vk c t k)) (i : Int) = _
  unfold nxtM
  rw [gt_nat (by rw [List.length_map]; exact hi), List.getElem_map, gt_nat hi]
/-- A model of the formula is that of the run that it leads to. -/
theorem film_only (R : Right c) {t : Trc} {md : List Bool} {n : Nat} (hl : md.length = 1 + (n + 1) * c.max.toNat) (hrow : ∀ k ≤ n, ∀ i : Nat, i < c.inputs.length → gt (gt t.rows (k : Int)).2 (i : Int) = gt (cut c.max md k) (gt c.inputs (i : Int) / 2))
    (hini : ∀ i : Nat, i < c.latches.length → gt t.init (i : Int) = gt (cut c.max md 0) ((gt c.latches (i : Int)).1 / 2)) :
    cnfT md (runS c n) = true ↔ gt md 0 = false ∧ startsM c t.init c.latches.length = true ∧ (∀ k ≤ n, c.constraints.all (lv (vk c t k)) = true) ∧ ∀ k ≤ n, (∀ i : Nat, i < c.ands.length → gt (vk c t k) ((gt c.ands (i : Int)).1 / 2) = gt (cut c.max md k) ((gt c.ands (i : Int)).1 / 2)) ∧ ∀ i : Nat, i < c.latches.length → gt (vk c t k) ((gt c.latches (i : Int)).1 / 2) = gt (cut c.max md k) ((gt c.latches (i : Int)).1 / 2) := by
  have cons : ∀ {u v : List Bool}, Agr c u v → c.constraints.all (lv u) = c.constraints.all (lv v) := fun A => by
    rw [Bool.eq_iff_iff, List.all_eq_true, List.all_eq_true]
    exact forall_congr' fun l => forall_congr' fun hl => by rw [A.lv R (R.use.constraints l hl)]
  have nxu : ∀ i : Nat, i < c.latches.length → useOk c (tabM c) (gt c.latches (i : Int)).2.1 := fun i hi => R.use.next _ (gt_mem (by omega) (by omega))
  rw [runS_true, firstS_true R hini]
  constructor
  · rintro ⟨h1, h2, h3, h4⟩
    have one : ∀ k ≤ n, (∀ i : Nat, i < c.latches.length → gt (cut c.max md k) ((gt c.latches (i : Int)).1 / 2) = gt (stM c t k) (i : Int)) → Agr c (vk c t k) (cut c.max md k) := fun k hk hlat => by
      have hv : ValOk c (stM c t k) (gt t.rows (k : Int)).2 (cut c.max md k) := ⟨cut_len hl hk R.m0, h1, fun i hi => (hrow k hk i hi).symm, hlat, ((stepS_true R).1 (h3 k hk)).1⟩
      exact val_only R (val_ok R _ _) hv
    have lats : ∀ k ≤ n, ∀ i : Nat, i < c.latches.length → gt (cut c.max md k) ((gt c.latches (i : Int)).1 / 2) = gt (stM c t k) (i : Int) := by
      intro k
      induction k with
      | zero => intro _ i hi; exact (hini i hi).symm
      | succ k ih =>
        intro hk i hi
        have A := one k (by omega) (ih (by omega))
        rw [(nextS_true R).1 (h4 k (by omega)) i hi, stM_gt hi, A.lv R (nxu i hi)]
    have A : ∀ k ≤ n, Agr c (vk c t k) (cut c.max md k) := fun k hk => one k hk (lats k hk)
    exact ⟨h1, h2, fun k hk => by rw [cons (A k hk)]; exact ((stepS_true R).1 (h3 k hk)).2, fun k hk => ⟨(A k hk).and, (A k hk).lat⟩⟩
  · rintro ⟨h1, h2, h3, h4⟩
    have V : ∀ k, ValOk c (stM c t k) (gt t.rows (k : Int)).2 (vk c t k) := fun k => val_ok R _ _
    have A : ∀ k ≤ n, Agr c (vk c t k) (cut c.max md k) := fun k hk => ⟨by rw [(V k).zero, cut_zero, h1], fun i hi => by rw [(V k).inp i hi, hrow k hk i hi], (h4 k hk).2, (h4 k hk).1⟩
    refine ⟨h1, h2, fun k hk => (stepS_true R).2 ⟨fun i hi => ?_, by rw [← cons (A k hk)]; exact h3 k hk⟩, fun k hk => (nextS_true R).2 fun i hi => ?_⟩
    · obtain ⟨u1, u2⟩ := gate_use R (i := (i : Int)) (by omega) (by omega)
      rw [← (A k hk).and i hi, (V k).and i hi, (A k hk).lv R u1, (A k hk).lv R u2]
    · rw [← (A (k + 1) hk).lat i hi, (V (k + 1)).lat i hi, stM_gt hi, (A k (by omega)).lv R (nxu i hi)]
end
end SC
end Go.Proofs.Ytbmngkdnebklpaa
end
section
/- cnf: Check, Holds (N18 for this seat). -/
set_option linter.unusedVariables false
set_option linter.unusedSimpArgs false
namespace Go.Proofs.Ytbmngkdnebklpaa
namespace SC
open Go.Proofs
/-- What a formula is made of is right. -/
def LitsOk (V : Int) (l : List Int) : Prop := l.length ≤ 16384 ∧ ∀ x ∈ l, x ≠ 0 ∧ -V ≤ x ∧ x ≤ V
attribute [local irreducible] WC WL WX WS WO OX Does DoesU Enters CV Pure thenQ blockQ retQ Wants retQC GC GL GS GX RdB thenG blockG retG Rd At gt CVN CVM
set_option maxRecDepth 100000
theorem literals1_cv {w : World} {b : Nat} {V x : Int} (hB : Blk w b 3 [nu V]) (h0 : 0 ≤ V) (h1 : V ≤ 262144) (hx : x ≠ 0 ∧ -V ≤ x ∧ x ≤ V) : CVN Try.prog 98 [nu x, pt b] w fun v N => N = [] ∧ v = .bool false := by
  obtain ⟨x0, x1, x2⟩ := hx
  refine CVN.enter 17 [3] Try.func98 rfl rfl rfl (by decide) rfl ?_
  repeat' (first
 | (apply GC_seqK; intro K hK)
 | (apply hK; clear hK K)
 | (apply GC_region)
 | (apply GL_nil)
 | (apply thenG_normal)
 | (apply GC_ret)
 | (apply retG1; eq_refl)
 | (apply GL_on; eq_refl; eq_refl)
 | (apply G_pv; eq_refl; first | exact trivial | omega)
 | (apply G_ldO; eq_refl; (repeat first | exact In.here | apply In.there | apply In.skip); assumption; eq_refl)
 | (apply G_cmpF; eq_refl; eq_refl; omega)
 | (apply G_neg; eq_refl; omega; omega))
  exact ⟨[], (by repeat first | exact Wk.nil | exact Wk.refl | (apply Wk.cons; (focus ((repeat first | exact Rem.here | apply Rem.there | apply Rem.skip); done))) | apply Wk.nilv | apply Wk.last | apply Wk.drop), rfl, rfl⟩
theorem literals_cv {w : World} {A : Option Addr} {k : Nat} {V : Int} {l : List Int} (hA : RowA w icell 1 A l) (h0 : 0 ≤ V) (h1 : V ≤ 262144) (hl : LitsOk V l) : CVN Try.prog 71 [.slice A l.length k, nu V] w fun v N => N = [] ∧ v = nu 0 := by
  obtain ⟨l0, l1⟩ := hl
  have hcf : ∀ Γ b, In Γ (.old w none_) → In Γ (.box b 3 [nu V]) → ∀ w', Mem w' Γ → CVN Try.prog 97 [.slice A l.length k, .func (.func 98) #[] #[pt b]] w' fun v N => N = [] ∧ v = .bool false := fun Γ b ho hb w' M => by
    have := containsFunc_cv (f := 98) (cap := #[pt b]) (p := fun _ => false) (k := k) (hA.chg (ho.old M)) (by omega) fun x hx w2 hc => literals1_cv ((hb.box M).chg hc id) h0 h1 (l1 x hx)
    rwa [show (l.any fun _ => false) = false by simp] at this
  refine CVN.enter 11 [4] Try.func71 rfl rfl rfl (by decide) rfl ?_
  repeat' (first
 | (apply G_call; eq_refl; eq_refl; (apply hcf; (repeat first | exact In.here | apply In.there | apply In.skip); (repeat first | exact In.here | apply In.there | apply In.skip)); rintro _ _ ⟨rfl, rfl⟩)
 | (apply GC_seqK; intro K hK)
 | (apply hK; clear hK K)
 | (apply GC_region)
 | (apply GL_nil)
 | (apply thenG_normal)
 | (apply GC_ret)
 | (apply GC_skip)
 | (apply GC_if_false; eq_refl)
 | (apply retG1; eq_refl)
 | (apply GL_on; eq_refl; eq_refl)
 | (apply G_pv; eq_refl; first | exact trivial | omega)
 | (apply G_cmpF; eq_refl; eq_refl; omega)
 | (apply G_len; eq_refl)
 | (apply G_box; eq_refl; eq_refl; intro _)
 | (apply G_fun; eq_refl))
  exact ⟨[], (by repeat first | exact Wk.nil | exact Wk.refl | (apply Wk.cons; (focus ((repeat first | exact Rem.here | apply Rem.there | apply Rem.skip); done))) | apply Wk.nilv | apply Wk.last | apply Wk.drop), rfl, rfl⟩
theorem check14_cv {w : World} {A : Option Addr} {k : Nat} {V : Int} {ps : List (Hdl × List Int)} (H : CnfAt w A ps) (h0 : 0 ≤ V) (h1 : V ≤ 262144) (hn : ps.length ≤ 524288) (hl : ∀ p ∈ ps, LitsOk V p.2) : CVN Try.prog 44 [.agg #[nu V, .slice A ps.length k]] w fun v N => N = [] ∧ v = .tuple #[nu 0, nu 0] := by
  have hA := H.row
  refine CVN.enter 36 [2, 3] Try.func44 rfl rfl rfl (by decide) rfl ?_
  repeat' (first
 | (apply GC_seqK; intro K hK)
 | (apply hK; clear hK K)
 | (apply GC_block)
 | (apply GC_region)
 | (apply GL_nil)
 | (apply thenG_normal)
 | (apply GC_skip)
 | (apply GC_if_false; eq_refl)
 | (apply GL_on; eq_refl; eq_refl)
 | (apply G_pv; eq_refl; first | exact trivial | omega)
 | (apply G_field; eq_refl)
 | (apply G_ld; eq_refl; (repeat first | exact In.here | apply In.there | apply In.skip); eq_refl)
 | (apply G_cmpF; eq_refl; eq_refl; omega)
 | (apply G_len; eq_refl)
 | (apply G_box; eq_refl; eq_refl; intro _))
  rename_i b1
  refine GC_loopK [1, 20, 21] (fun i : Nat => [(22, nu i)]) (fun _ => [.box b1 34 [nu V, .slice A ps.length k], .old w none_]) (fun i => i ≤ ps.length) (fun i => ps.length - i) 0 (by repeat first | exact Pick.nil | (apply Pick.cons; eq_refl)) (by repeat first | exact trivial | refine ⟨rfl, ?_⟩) (by repeat first | exact Wk.nil | exact Wk.refl | (apply Wk.cons; (focus ((repeat first | exact Rem.here | apply Rem.there | apply Rem.skip); done))) | apply Wk.nilv | apply Wk.last | apply Wk.drop) (Nat.zero_le _) ?_
  intro i hi
  rcases Nat.lt_or_ge i ps.length with hlt | hge
  · have g1 := gt_mem (l := ps) (i := (i : Int)) (by omega) (by omega)
    have r1 := H.each _ g1
    have o1 := hl _ g1
    generalize hx : gt ps (i : Int) = x at *
    obtain ⟨x1, l1⟩ := x
    dsimp only at r1 o1
    have hli : ∀ Γ, In Γ (.old w none_) → ∀ w', Mem w' Γ → CVN Try.prog 71 [.slice x1.1 l1.length x1.2, nu V] w' _ := fun Γ ho w' M => literals_cv (r1.chg (ho.old M)) h0 h1 o1
    repeat' (first
 | (apply G_call; eq_refl; eq_refl; (apply hli; (repeat first | exact In.here | apply In.there | apply In.skip)); rintro _ _ ⟨rfl, rfl⟩)
 | (apply G_rd; eq_refl; (first | (apply Rd.own; (repeat first | exact In.here | apply In.there | apply In.skip); infer_instance) | (apply Rd.old; (repeat first | exact In.here | apply In.there | apply In.skip); assumption) | (apply Rd.oldR; (repeat first | exact In.here | apply In.there | apply In.skip); assumption) | exact Rd.nil | assumption); (case ih => infer_instance); omega; omega; (rw [hx]; dsimp only [encS]; eq_refl))
 | (apply GC_seqK; intro K hK)
 | (apply hK; clear hK K)
 | (apply GC_block)
 | (apply GC_region)
 | (apply GL_nil)
 | (apply thenG_normal)
 | (apply blockG_normal)
 | (apply GC_skip)
 | (apply GC_if_true; eq_refl)
 | (apply GC_if_false; eq_refl)
 | (apply GL_on; eq_refl; eq_refl)
 | (apply G_pv; eq_refl; first | exact trivial | omega)
 | (apply G_field; eq_refl)
 | (apply G_ld; eq_refl; (repeat first | exact In.here | apply In.there | apply In.skip); eq_refl)
 | (apply G_cmpT; eq_refl; eq_refl; omega)
 | (apply G_cmpF; eq_refl; eq_refl; omega)
 | (apply G_ix; eq_refl; eq_refl; (first | (apply Rd.own; (repeat first | exact In.here | apply In.there | apply In.skip); infer_instance) | (apply Rd.old; (repeat first | exact In.here | apply In.there | apply In.skip); assumption) | (apply Rd.oldR; (repeat first | exact In.here | apply In.there | apply In.skip); assumption) | exact Rd.nil | assumption); (first | eq_refl | omega); omega; omega))
    exact ⟨i + 1, (by repeat first | exact trivial | refine ⟨rfl, ?_⟩), (by repeat first | exact Wk.nil | exact Wk.refl | (apply Wk.cons; (focus ((repeat first | exact Rem.here | apply Rem.there | apply Rem.skip); done))) | apply Wk.nilv | apply Wk.last | apply Wk.drop), hlt, by omega⟩
  · repeat' (first
 | (apply GC_seqK; intro K hK)
 | (apply hK; clear hK K)
 | (clear hK K; apply hK; clear hK K)
 | (apply GC_region)
 | (apply GL_nil)
 | (apply thenG_normal)
 | (apply thenG_exit)
 | (apply blockG_hit)
 | (apply GC_ret)
 | (apply GC_exit)
 | (apply GC_if_false; eq_refl)
 | (apply retG2; eq_refl; eq_refl)
 | (apply GL_on; eq_refl; eq_refl)
 | (apply G_pv; eq_refl; first | exact trivial | omega)
 | (apply G_cmpF; eq_refl; eq_refl; omega))
    exact ⟨[], (by repeat first | exact Wk.nil | exact Wk.refl | (apply Wk.cons; (focus ((repeat first | exact Rem.here | apply Rem.there | apply Rem.skip); done))) | apply Wk.nilv | apply Wk.last | apply Wk.drop), rfl, rfl⟩
/-! ### slices.ContainsFunc and IndexFunc at clauses -/
theorem indexFuncC_cv {w : World} {f : FuncId} [F : Fn Try.prog f] {cap : Array Value} {p : Int → Bool} {A : Option Addr} {k : Nat} {ls : List Int} (hA : RowA w icell 1 A ls) (hn : ls.length ≤ 9223372036854775807) (hf : ∀ x ∈ ls, ∀ w', Chg w w' none_ → CVN Try.prog f ([nu x] ++ cap.toList) w' fun v N => N = [] ∧ v = .bool (p x)) :
    CVN Try.prog 113 [.slice A ls.length k, .func (.func f) #[] cap] w fun v N => N = [] ∧ ∃ i : Int, v = nu i ∧ decide (0 ≤ i) = ls.any p := by
  refine CVN.enter 19 [4] Try.func113 rfl rfl rfl (by decide) rfl ?_
  repeat' (first
 | (apply GC_seqK; intro K hK)
 | (apply hK; clear hK K)
 | (apply GC_block)
 | (apply GC_region)
 | (apply GL_nil)
 | (apply thenG_normal)
 | (apply GL_on; eq_refl; eq_refl)
 | (apply G_pv; eq_refl; first | exact trivial | omega)
 | (apply G_len; eq_refl))
  refine GC_loopK [0, 1, 7] (fun i : Nat => [(8, nu i)]) (fun _ => [.old w none_]) (fun i => i ≤ ls.length ∧ (ls.take i).any p = false) (fun i => ls.length - i) 0 (by repeat first | exact Pick.nil | (apply Pick.cons; eq_refl)) (by repeat first | exact trivial | refine ⟨rfl, ?_⟩) (by repeat first | exact Wk.nil | exact Wk.refl | (apply Wk.cons; (focus ((repeat first | exact Rem.here | apply Rem.there | apply Rem.skip); done))) | apply Wk.nilv | apply Wk.last | apply Wk.drop) ⟨Nat.zero_le _, by simp⟩ ?_
  rintro i ⟨hi, hall⟩
  rcases Nat.lt_or_ge i ls.length with hlt | hge
  · have e1 := List.take_succ_eq_append_getElem hlt
    have eg := gt_nat hlt
    have hcl : ∀ Γ, In Γ (.old w none_) → ∀ w', Mem w' Γ → CVN Try.prog f ([nu (gt ls (i : Int))] ++ cap.toList) w' _ := fun Γ h0 w' M => hf _ (by rw [eg]; exact List.getElem_mem hlt) w' (h0.old M)
    rw [← eg] at e1
    cases hv : p (gt ls (i : Int))
    all_goals
      rw [hv] at hcl
      repeat' (first
 | (apply G_callF; eq_refl; eq_refl; infer_instance; eq_refl; (apply hcl; (repeat first | exact In.here | apply In.there | apply In.skip)); rintro _ _ ⟨rfl, rfl⟩)
 | (apply GC_seqK; intro K hK)
 | (apply hK; clear hK K)
 | (apply GC_block)
 | (apply GC_region)
 | (apply GL_nil)
 | (apply thenG_normal)
 | (apply thenG_ret)
 | (apply blockG_ret)
 | (apply blockG_normal)
 | (apply GC_ret)
 | (apply GC_skip)
 | (apply GC_if_true; eq_refl)
 | (apply GC_if_false; eq_refl)
 | (apply retG1; eq_refl)
 | (apply GL_on; eq_refl; eq_refl)
 | (apply G_pv; eq_refl; first | exact trivial | omega)
 | (apply G_rd; eq_refl; (first | (apply Rd.own; (repeat first | exact In.here | apply In.there | apply In.skip); infer_instance) | (apply Rd.old; (repeat first | exact In.here | apply In.there | apply In.skip); assumption) | (apply Rd.oldR; (repeat first | exact In.here | apply In.there | apply In.skip); assumption) | exact Rd.nil | assumption); (case ih => infer_instance); omega; omega; eq_refl)
 | (apply G_cmpT; eq_refl; eq_refl; omega)
 | (apply G_ix; eq_refl; eq_refl; (first | (apply Rd.own; (repeat first | exact In.here | apply In.there | apply In.skip); infer_instance) | (apply Rd.old; (repeat first | exact In.here | apply In.there | apply In.skip); assumption) | (apply Rd.oldR; (repeat first | exact In.here | apply In.there | apply In.skip); assumption) | exact Rd.nil | assumption); (first | eq_refl | omega); omega; omega))
    · exact ⟨i + 1, (by repeat first | exact trivial | refine ⟨rfl, ?_⟩), (by repeat first | exact Wk.nil | exact Wk.refl | (apply Wk.cons; (focus ((repeat first | exact Rem.here | apply Rem.there | apply Rem.skip); done))) | apply Wk.nilv | apply Wk.last | apply Wk.drop), ⟨hlt, by rw [e1, List.any_append, hall]; simp [hv]⟩, by omega⟩
    · refine ⟨[], (by repeat first | exact Wk.nil | exact Wk.refl | (apply Wk.cons; (focus ((repeat first | exact Rem.here | apply Rem.there | apply Rem.skip); done))) | apply Wk.nilv | apply Wk.last | apply Wk.drop), rfl, _, rfl, ?_⟩
      have : ls.any p = true := List.any_eq_true.2 ⟨_, List.getElem_mem hlt, by rw [← eg, hv]⟩
      rw [this]
      simp
  · repeat' (first
 | (apply GC_seqK; intro K hK)
 | (apply hK; clear hK K)
 | (clear hK K; apply hK; clear hK K)
 | (apply GC_region)
 | (apply GL_nil)
 | (apply thenG_normal)
 | (apply thenG_exit)
 | (apply blockG_hit)
 | (apply GC_ret)
 | (apply GC_exit)
 | (apply GC_if_false; eq_refl)
 | (apply retG1; eq_refl)
 | (apply GL_on; eq_refl; eq_refl)
 | (apply G_pv; eq_refl; first | exact trivial | omega)
 | (apply G_cmpF; eq_refl; eq_refl; omega))
    rw [List.take_of_length_le hge] at hall
    exact ⟨[], (by repeat first | exact Wk.nil | exact Wk.refl | (apply Wk.cons; (focus ((repeat first | exact Rem.here | apply Rem.there | apply Rem.skip); done))) | apply Wk.nilv | apply Wk.last | apply Wk.drop), rfl, _, rfl, by rw [hall]; rfl⟩
theorem containsFuncC_cv {w : World} {f : FuncId} [F : Fn Try.prog f] {cap : Array Value} {p : Int → Bool} {A : Option Addr} {k : Nat} {ls : List Int} (hA : RowA w icell 1 A ls) (hn : ls.length ≤ 9223372036854775807) (hf : ∀ x ∈ ls, ∀ w', Chg w w' none_ → CVN Try.prog f ([nu x] ++ cap.toList) w' fun v N => N = [] ∧ v = .bool (p x)) :
    CVN Try.prog 99 [.slice A ls.length k, .func (.func f) #[] cap] w fun v N => N = [] ∧ v = .bool (ls.any p) := by
  have hix : ∀ Γ, In Γ (.old w none_) → ∀ w', Mem w' Γ → CVN Try.prog 113 [.slice A ls.length k, .func (.func f) #[] cap] w' _ := fun Γ h0 w' M => indexFuncC_cv (p := p) (hA.chg (h0.old M)) hn fun x hx w2 hc => hf x hx w2 ((h0.old M).trans hc fun _ _ h => h)
  refine CVN.enter 9 [4] Try.func99 rfl rfl rfl (by decide) rfl ?_
  repeat' (first
 | (apply G_call; eq_refl; eq_refl; (apply hix; (repeat first | exact In.here | apply In.there | apply In.skip)); rintro _ _ ⟨rfl, i, rfl, hi⟩)
 | (apply GC_seqK; intro K hK)
 | (apply hK; clear hK K)
 | (apply GC_region)
 | (apply GL_nil)
 | (apply thenG_normal)
 | (apply GC_ret)
 | (apply retG1; eq_refl)
 | (apply GL_on; eq_refl; eq_refl)
 | (apply G_pv; eq_refl; first | exact trivial | omega)
 | (apply G_cmpD; eq_refl; eq_refl; (case hd => infer_instance)))
  exact ⟨[], (by repeat first | exact Wk.nil | exact Wk.refl | (apply Wk.cons; (focus ((repeat first | exact Rem.here | apply Rem.there | apply Rem.skip); done))) | apply Wk.nilv | apply Wk.last | apply Wk.drop), rfl, by rw [← hi]⟩
theorem indexClause_cv {w : World} {f : FuncId} [F : Fn Try.prog f] {cap : Array Value} {q : List Int → Bool} {A : Option Addr} {k : Nat} {ps : List (Hdl × List Int)} (H : CnfAt w A ps) (hn : ps.length ≤ 9223372036854775807) (hf : ∀ p ∈ ps, ∀ w', Chg w w' none_ → CVN Try.prog f ([.slice p.1.1 p.2.length p.1.2] ++ cap.toList) w' fun v N => N = [] ∧ v = .bool (q p.2)) :
    CVN Try.prog 72 [.slice A ps.length k, .func (.func f) #[] cap] w fun v N => N = [] ∧ ∃ i : Int, v = nu i ∧ decide (0 ≤ i) = ps.any fun p => q p.2 := by
  have hA := H.row
  refine CVN.enter 19 [4] Try.func72 rfl rfl rfl (by decide) rfl ?_
  repeat' (first
 | (apply GC_seqK; intro K hK)
 | (apply hK; clear hK K)
 | (apply GC_block)
 | (apply GC_region)
 | (apply GL_nil)
 | (apply thenG_normal)
 | (apply GL_on; eq_refl; eq_refl)
 | (apply G_pv; eq_refl; first | exact trivial | omega)
 | (apply G_len; eq_refl))
  refine GC_loopK [0, 1, 7] (fun i : Nat => [(8, nu i)]) (fun _ => [.old w none_]) (fun i => i ≤ ps.length ∧ ((ps.take i).any fun p => q p.2) = false) (fun i => ps.length - i) 0 (by repeat first | exact Pick.nil | (apply Pick.cons; eq_refl)) (by repeat first | exact trivial | refine ⟨rfl, ?_⟩) (by repeat first | exact Wk.nil | exact Wk.refl | (apply Wk.cons; (focus ((repeat first | exact Rem.here | apply Rem.there | apply Rem.skip); done))) | apply Wk.nilv | apply Wk.last | apply Wk.drop) ⟨Nat.zero_le _, by simp⟩ ?_
  rintro i ⟨hi, hall⟩
  rcases Nat.lt_or_ge i ps.length with hlt | hge
  · have e1 := List.take_succ_eq_append_getElem hlt
    have eg := gt_nat hlt
    have g1 := gt_mem (l := ps) (i := (i : Int)) (by omega) (by omega)
    have hcl0 := fun w' hc => hf _ g1 w' hc
    rw [← eg] at e1
    clear eg
    generalize hx : gt ps (i : Int) = x at *
    obtain ⟨x1, l1⟩ := x
    dsimp only at hcl0
    have hcl : ∀ Γ, In Γ (.old w none_) → ∀ w', Mem w' Γ → CVN Try.prog f ([.slice x1.1 l1.length x1.2] ++ cap.toList) w' _ := fun Γ h0 w' M => hcl0 w' (h0.old M)
    cases hv : q l1
    all_goals
      rw [hv] at hcl
      repeat' (first
 | (apply G_callF; eq_refl; eq_refl; infer_instance; eq_refl; (apply hcl; (repeat first | exact In.here | apply In.there | apply In.skip)); rintro _ _ ⟨rfl, rfl⟩)
 | (apply G_rd; eq_refl; (first | (apply Rd.own; (repeat first | exact In.here | apply In.there | apply In.skip); infer_instance) | (apply Rd.old; (repeat first | exact In.here | apply In.there | apply In.skip); assumption) | (apply Rd.oldR; (repeat first | exact In.here | apply In.there | apply In.skip); assumption) | exact Rd.nil | assumption); (case ih => infer_instance); omega; omega; (rw [hx]; dsimp only [encS]; eq_refl))
 | (apply GC_seqK; intro K hK)
 | (apply hK; clear hK K)
 | (apply GC_block)
 | (apply GC_region)
 | (apply GL_nil)
 | (apply thenG_normal)
 | (apply thenG_ret)
 | (apply blockG_ret)
 | (apply blockG_normal)
 | (apply GC_ret)
 | (apply GC_skip)
 | (apply GC_if_true; eq_refl)
 | (apply GC_if_false; eq_refl)
 | (apply retG1; eq_refl)
 | (apply GL_on; eq_refl; eq_refl)
 | (apply G_pv; eq_refl; first | exact trivial | omega)
 | (apply G_cmpT; eq_refl; eq_refl; omega)
 | (apply G_ix; eq_refl; eq_refl; (first | (apply Rd.own; (repeat first | exact In.here | apply In.there | apply In.skip); infer_instance) | (apply Rd.old; (repeat first | exact In.here | apply In.there | apply In.skip); assumption) | (apply Rd.oldR; (repeat first | exact In.here | apply In.there | apply In.skip); assumption) | exact Rd.nil | assumption); (first | eq_refl | omega); omega; omega))
    · exact ⟨i + 1, (by repeat first | exact trivial | refine ⟨rfl, ?_⟩), (by repeat first | exact Wk.nil | exact Wk.refl | (apply Wk.cons; (focus ((repeat first | exact Rem.here | apply Rem.there | apply Rem.skip); done))) | apply Wk.nilv | apply Wk.last | apply Wk.drop), ⟨hlt, by rw [e1, List.any_append, hall]; simp [hv]⟩, by omega⟩
    · refine ⟨[], (by repeat first | exact Wk.nil | exact Wk.refl | (apply Wk.cons; (focus ((repeat first | exact Rem.here | apply Rem.there | apply Rem.skip); done))) | apply Wk.nilv | apply Wk.last | apply Wk.drop), rfl, _, rfl, ?_⟩
      have : (ps.any fun p => q p.2) = true := List.any_eq_true.2 ⟨_, g1, hv⟩
      rw [this]
      simp
  · repeat' (first
 | (apply GC_seqK; intro K hK)
 | (apply hK; clear hK K)
 | (clear hK K; apply hK; clear hK K)
 | (apply GC_region)
 | (apply GL_nil)
 | (apply thenG_normal)
 | (apply thenG_exit)
 | (apply blockG_hit)
 | (apply GC_ret)
 | (apply GC_exit)
 | (apply GC_if_false; eq_refl)
 | (apply retG1; eq_refl)
 | (apply GL_on; eq_refl; eq_refl)
 | (apply G_pv; eq_refl; first | exact trivial | omega)
 | (apply G_cmpF; eq_refl; eq_refl; omega))
    rw [List.take_of_length_le hge] at hall
    exact ⟨[], (by repeat first | exact Wk.nil | exact Wk.refl | (apply Wk.cons; (focus ((repeat first | exact Rem.here | apply Rem.there | apply Rem.skip); done))) | apply Wk.nilv | apply Wk.last | apply Wk.drop), rfl, _, rfl, by rw [hall]; rfl⟩
/-! ### a clause, a formula -/
theorem holds1_cv {w : World} {b kd : Nat} {D : Option Addr} {md : List Bool} {x : Int} (hB : Blk w b 41 [.slice D md.length kd]) (hD : RowA w booc 1 D md) (hm : md.length ≤ 262144) (hx : x ≠ 0 ∧ -(md.length : Int) ≤ x ∧ x ≤ md.length) : CVN Try.prog 100 [nu x, pt b] w fun v N => N = [] ∧ v = .bool (litT md x) := by
  obtain ⟨x0, x1, x2⟩ := hx
  unfold litT
  refine CVN.enter 18 [3] Try.func100 rfl rfl rfl (by decide) rfl ?_
  by_cases hs : x < 0
  · rw [if_pos hs]
    repeat' (first
 | (apply GC_seqK; intro K hK)
 | (apply hK; clear hK K)
 | (apply GC_region)
 | (apply GL_nil)
 | (apply thenG_normal)
 | (apply thenG_ret)
 | (apply GC_ret)
 | (apply GC_if_true; eq_refl)
 | (apply retG1; eq_refl)
 | (apply GL_on; eq_refl; eq_refl)
 | (apply G_pv; eq_refl; first | exact trivial | omega)
 | (apply G_ldO; eq_refl; (repeat first | exact In.here | apply In.there | apply In.skip); assumption; eq_refl)
 | (apply G_rd; eq_refl; (first | (apply Rd.own; (repeat first | exact In.here | apply In.there | apply In.skip); infer_instance) | (apply Rd.old; (repeat first | exact In.here | apply In.there | apply In.skip); assumption) | (apply Rd.oldR; (repeat first | exact In.here | apply In.there | apply In.skip); assumption) | exact Rd.nil | assumption); (case ih => infer_instance); omega; omega; eq_refl)
 | (apply G_cmpT; eq_refl; eq_refl; omega)
 | (apply G_ix; eq_refl; eq_refl; (first | (apply Rd.own; (repeat first | exact In.here | apply In.there | apply In.skip); infer_instance) | (apply Rd.old; (repeat first | exact In.here | apply In.there | apply In.skip); assumption) | (apply Rd.oldR; (repeat first | exact In.here | apply In.there | apply In.skip); assumption) | exact Rd.nil | assumption); (first | eq_refl | omega); omega; omega)
 | (apply G_neg; eq_refl; omega; omega))
    exact ⟨[], (by repeat first | exact Wk.nil | exact Wk.refl | (apply Wk.cons; (focus ((repeat first | exact Rem.here | apply Rem.there | apply Rem.skip); done))) | apply Wk.nilv | apply Wk.last | apply Wk.drop), rfl, rfl⟩
  · rw [if_neg hs]
    repeat' (first
 | (apply GC_seqK; intro K hK)
 | (apply hK; clear hK K)
 | (apply GC_region)
 | (apply GL_nil)
 | (apply thenG_normal)
 | (apply GC_ret)
 | (apply GC_skip)
 | (apply GC_if_false; eq_refl)
 | (apply retG1; eq_refl)
 | (apply GL_on; eq_refl; eq_refl)
 | (apply G_pv; eq_refl; first | exact trivial | omega)
 | (apply G_ldO; eq_refl; (repeat first | exact In.here | apply In.there | apply In.skip); assumption; eq_refl)
 | (apply G_rd; eq_refl; (first | (apply Rd.own; (repeat first | exact In.here | apply In.there | apply In.skip); infer_instance) | (apply Rd.old; (repeat first | exact In.here | apply In.there | apply In.skip); assumption) | (apply Rd.oldR; (repeat first | exact In.here | apply In.there | apply In.skip); assumption) | exact Rd.nil | assumption); (case ih => infer_instance); omega; omega; eq_refl)
 | (apply G_cmpF; eq_refl; eq_refl; omega)
 | (apply G_ix; eq_refl; eq_refl; (first | (apply Rd.own; (repeat first | exact In.here | apply In.there | apply In.skip); infer_instance) | (apply Rd.old; (repeat first | exact In.here | apply In.there | apply In.skip); assumption) | (apply Rd.oldR; (repeat first | exact In.here | apply In.there | apply In.skip); assumption) | exact Rd.nil | assumption); (first | eq_refl | omega); omega; omega))
    exact ⟨[], (by repeat first | exact Wk.nil | exact Wk.refl | (apply Wk.cons; (focus ((repeat first | exact Rem.here | apply Rem.there | apply Rem.skip); done))) | apply Wk.nilv | apply Wk.last | apply Wk.drop), rfl, rfl⟩
theorem holds14_cv {w : World} {A D : Option Addr} {k kd : Nat} {md : List Bool} {l : List Int} (hA : RowA w icell 1 A l) (hD : RowA w booc 1 D md) (hm : md.length ≤ 262144) (hl : LitsOk md.length l) : CVN Try.prog 74 [.slice A l.length k, .slice D md.length kd] w fun v N => N = [] ∧ v = .bool (clT md l) := by
  obtain ⟨l0, l1⟩ := hl
  have hcf : ∀ Γ b, In Γ (.old w none_) → In Γ (.box b 41 [.slice D md.length kd]) → ∀ w', Mem w' Γ → CVN Try.prog 99 [.slice A l.length k, .func (.func 100) #[] #[pt b]] w' fun v N => N = [] ∧ v = .bool (clT md l) := fun Γ b ho hb w' M => containsFuncC_cv (f := 100) (cap := #[pt b]) (p := litT md) (k := k) (hA.chg (ho.old M)) (by omega) fun x hx w2 hc => holds1_cv ((hb.box M).chg hc id) ((hD.chg (ho.old M)).chg hc) hm (l1 x hx)
  refine CVN.enter 8 [4] Try.func74 rfl rfl rfl (by decide) rfl ?_
  repeat' (first
 | (apply G_call; eq_refl; eq_refl; (apply hcf; (repeat first | exact In.here | apply In.there | apply In.skip); (repeat first | exact In.here | apply In.there | apply In.skip)); rintro _ _ ⟨rfl, rfl⟩)
 | (apply GC_seqK; intro K hK)
 | (apply hK; clear hK K)
 | (apply GC_region)
 | (apply GL_nil)
 | (apply thenG_normal)
 | (apply GC_ret)
 | (apply retG1; eq_refl)
 | (apply GL_on; eq_refl; eq_refl)
 | (apply G_pv; eq_refl; first | exact trivial | omega)
 | (apply G_box; eq_refl; eq_refl; intro _)
 | (apply G_fun; eq_refl))
  exact ⟨[], (by repeat first | exact Wk.nil | exact Wk.refl | (apply Wk.cons; (focus ((repeat first | exact Rem.here | apply Rem.there | apply Rem.skip); done))) | apply Wk.nilv | apply Wk.last | apply Wk.drop), rfl, rfl⟩
theorem first1_cv {w : World} {b kd k : Nat} {A D : Option Addr} {md : List Bool} {l : List Int} (hB : Blk w b 41 [.slice D md.length kd]) (hA : RowA w icell 1 A l) (hD : RowA w booc 1 D md) (hm : md.length ≤ 262144) (hl : LitsOk md.length l) : CVN Try.prog 73 [.slice A l.length k, pt b] w fun v N => N = [] ∧ v = .bool (!clT md l) := by
  have hh : ∀ Γ, In Γ (.old w none_) → ∀ w', Mem w' Γ → CVN Try.prog 74 [.slice A l.length k, .slice D md.length kd] w' _ := fun Γ ho w' M => holds14_cv (hA.chg (ho.old M)) (hD.chg (ho.old M)) hm hl
  refine CVN.enter 8 [3] Try.func73 rfl rfl rfl (by decide) rfl ?_
  repeat' (first
 | (apply G_call; eq_refl; eq_refl; (apply hh; (repeat first | exact In.here | apply In.there | apply In.skip)); rintro _ _ ⟨rfl, rfl⟩)
 | (apply GC_seqK; intro K hK)
 | (apply hK; clear hK K)
 | (apply GC_region)
 | (apply GL_nil)
 | (apply thenG_normal)
 | (apply GC_ret)
 | (apply retG1; eq_refl)
 | (apply GL_on; eq_refl; eq_refl)
 | (apply G_pv; eq_refl; first | exact trivial | omega)
 | (apply G_ldO; eq_refl; (repeat first | exact In.here | apply In.there | apply In.skip); assumption; eq_refl))
  exact ⟨[], (by repeat first | exact Wk.nil | exact Wk.refl | (apply Wk.cons; (focus ((repeat first | exact Rem.here | apply Rem.there | apply Rem.skip); done))) | apply Wk.nilv | apply Wk.last | apply Wk.drop), rfl, rfl⟩
theorem first_cv {w : World} {A D : Option Addr} {k kd : Nat} {V : Int} {md : List Bool} {ps : List (Hdl × List Int)} (H : CnfAt w A ps) (hD : RowA w booc 1 D md) (hm : md.length ≤ 262144) (hn : ps.length ≤ 524288) (hl : ∀ p ∈ ps, LitsOk md.length p.2) :
    CVN Try.prog 45 [.agg #[nu V, .slice A ps.length k], .slice D md.length kd] w fun v N => N = [] ∧ ∃ i : Int, v = nu i ∧ (0 ≤ i ↔ cnfT md (ps.map (·.2)) = false) := by
  have hix : ∀ Γ b, In Γ (.old w none_) → In Γ (.box b 41 [.slice D md.length kd]) → ∀ w', Mem w' Γ → CVN Try.prog 72 [.slice A ps.length k, .func (.func 73) #[] #[pt b]] w' _ := fun Γ b ho hb w' M => indexClause_cv (f := 73) (cap := #[pt b]) (q := fun l => !clT md l) (k := k) ⟨H.row.chg (ho.old M), fun p hp => (H.each p hp).chg (ho.old M)⟩ (by omega) fun p hp w2 hc => first1_cv ((hb.box M).chg hc id) (((H.each p hp).chg (ho.old M)).chg hc) ((hD.chg (ho.old M)).chg hc) hm (hl p hp)
  refine CVN.enter 9 [4] Try.func45 rfl rfl rfl (by decide) rfl ?_
  repeat' (first
 | (apply G_call; eq_refl; eq_refl; (apply hix; (repeat first | exact In.here | apply In.there | apply In.skip); (repeat first | exact In.here | apply In.there | apply In.skip)); rintro _ _ ⟨rfl, i, rfl, hi⟩)
 | (apply GC_seqK; intro K hK)
 | (apply hK; clear hK K)
 | (apply GC_region)
 | (apply GL_nil)
 | (apply thenG_normal)
 | (apply GC_ret)
 | (apply retG1; eq_refl)
 | (apply GL_on; eq_refl; eq_refl)
 | (apply G_pv; eq_refl; first | exact trivial | omega)
 | (apply G_field; eq_refl)
 | (apply G_ld; eq_refl; (repeat first | exact In.here | apply In.there | apply In.skip); eq_refl)
 | (apply G_box; eq_refl; eq_refl; intro _)
 | (apply G_fun; eq_refl))
  refine ⟨[], (by repeat first | exact Wk.nil | exact Wk.refl | (apply Wk.cons; (focus ((repeat first | exact Rem.here | apply Rem.there | apply Rem.skip); done))) | apply Wk.nilv | apply Wk.last | apply Wk.drop), rfl, i, rfl, ?_⟩
  have e : (ps.any fun p => !clT md p.2) = !cnfT md (ps.map (·.2)) := by unfold cnfT; rw [List.all_map, List.not_all_eq_any_not]; rfl
  rw [e] at hi
  exact (decide_eq_true_iff (p := 0 ≤ i)).symm.trans (by rw [hi]; cases cnfT md (ps.map (·.2)) <;> simp)
theorem holdsP_cv {w : World} {A D : Option Addr} {k kd : Nat} {md : List Bool} {ps : List (Hdl × List Int)} (H : CnfAt w A ps) (hD : RowA w booc 1 D md) (hm : md.length ≤ 262144) (hn : ps.length ≤ 524288) (hl : ∀ p ∈ ps, LitsOk md.length p.2) :
    CVN Try.prog 16 [.agg #[nu md.length, .slice A ps.length k], .slice D md.length kd] w fun v N => N = [] ∧ ∃ i : Int, v = .tuple #[.bool (cnfT md (ps.map (·.2))), nu i, nu 0] := by
  have hck : ∀ Γ, In Γ (.old w none_) → ∀ w', Mem w' Γ → CVN Try.prog 44 [.agg #[nu md.length, .slice A ps.length k]] w' _ := fun Γ ho w' M => check14_cv ⟨H.row.chg (ho.old M), fun p hp => (H.each p hp).chg (ho.old M)⟩ (by omega) (by omega) hn hl
  have hfi : ∀ Γ, In Γ (.old w none_) → ∀ w', Mem w' Γ → CVN Try.prog 45 [.agg #[nu md.length, .slice A ps.length k], .slice D md.length kd] w' _ := fun Γ ho w' M => first_cv ⟨H.row.chg (ho.old M), fun p hp => (H.each p hp).chg (ho.old M)⟩ (hD.chg (ho.old M)) hm hn hl
  refine CVN.enter 29 [4, 5, 6] Try.func16 rfl rfl rfl (by decide) rfl ?_
  repeat' (first
 | (apply G_call; eq_refl; eq_refl; (apply hck; (repeat first | exact In.here | apply In.there | apply In.skip)); rintro _ _ ⟨rfl, rfl⟩)
 | (apply GC_seqK; intro K hK)
 | (apply hK; clear hK K)
 | (apply GC_region)
 | (apply GL_nil)
 | (apply thenG_normal)
 | (apply GC_skip)
 | (apply GC_if_false; eq_refl)
 | (apply GL_on; eq_refl; eq_refl)
 | (apply G_pv; eq_refl; first | exact trivial | omega)
 | (apply G_field; eq_refl)
 | (apply G_ld; eq_refl; (repeat first | exact In.here | apply In.there | apply In.skip); eq_refl)
 | (apply G_ldW; eq_refl; (repeat first | exact In.here | apply In.there | apply In.skip); eq_refl)
 | (apply G_cmpF; eq_refl; eq_refl; omega)
 | (apply G_len; eq_refl)
 | (apply G_box; eq_refl; eq_refl; intro _))
  apply G_call; eq_refl; eq_refl; (apply hfi; (repeat first | exact In.here | apply In.there | apply In.skip)); rintro _ _ ⟨rfl, i, rfl, hi⟩
  generalize hb : cnfT md (ps.map (·.2)) = β at *
  cases β
  · have hi2 : 0 ≤ i := hi.2 rfl
    repeat' (first
 | (apply GC_seqK; intro K hK)
 | (apply hK; clear hK K)
 | (apply GC_region)
 | (apply GL_nil)
 | (apply thenG_normal)
 | (apply thenG_ret)
 | (apply GC_ret)
 | (apply GC_if_true; eq_refl)
 | (apply retG3; eq_refl; eq_refl; eq_refl)
 | (apply GL_on; eq_refl; eq_refl)
 | (apply G_pv; eq_refl; first | exact trivial | omega)
 | (apply G_cmpT; eq_refl; eq_refl; omega))
    exact ⟨[], (by repeat first | exact Wk.nil | exact Wk.refl | (apply Wk.cons; (focus ((repeat first | exact Rem.here | apply Rem.there | apply Rem.skip); done))) | apply Wk.nilv | apply Wk.last | apply Wk.drop), rfl, _, rfl⟩
  · have hi2 : ¬ 0 ≤ i := fun h => by have := hi.1 h; cases this
    repeat' (first
 | (apply GC_seqK; intro K hK)
 | (apply hK; clear hK K)
 | (apply GC_region)
 | (apply GL_nil)
 | (apply thenG_normal)
 | (apply GC_ret)
 | (apply GC_skip)
 | (apply GC_if_false; eq_refl)
 | (apply retG3; eq_refl; eq_refl; eq_refl)
 | (apply GL_on; eq_refl; eq_refl)
 | (apply G_pv; eq_refl; first | exact trivial | omega)
 | (apply G_cmpF; eq_refl; eq_refl; omega))
    exact ⟨[], (by repeat first | exact Wk.nil | exact Wk.refl | (apply Wk.cons; (focus ((repeat first | exact Rem.here | apply Rem.there | apply Rem.skip); done))) | apply Wk.nilv | apply Wk.last | apply Wk.drop), rfl, _, rfl⟩
end SC
end Go.Proofs.Ytbmngkdnebklpaa
end
section
/- Lists of numbers and numbers that come in. -/
set_option linter.unusedVariables false
set_option linter.unusedSimpArgs false
namespace Go.Proofs.Ytbmngkdnebklpaa
namespace SC
open Go.Proofs
set_option maxRecDepth 100000
section
variable {H : Type} {enc : TypeId × Value → H} {W : World} {base : Nat} {spare : Nat → Bool} {held : Bool}
theorem openNumS {v : Value} {d : DataW H} {ps : List MemPlace} {r : Reach} {b0 : Nat} (hv : Value.okWide Try.prog W r b0 3 v) (h : DataW.Trod enc Try.prog W base spare held 3 v d ps) : ∃ a, v = nu a ∧ fits a := by
  obtain ⟨z, rfl, _⟩ := Go.WideShapes.okWide_int Try.underlying3 hv
  obtain ⟨fuel, hf⟩ := h
  obtain ⟨a, e, ha⟩ := openIntS (cs := [nu z]) hf
  cases (List.cons.inj e).1
  exact ⟨z, rfl, ha⟩
end
end SC
end Go.Proofs.Ytbmngkdnebklpaa
end
section
/- frames: Trace: the walk. -/
set_option linter.unusedVariables false
set_option linter.unusedSimpArgs false
namespace Go.Proofs.Ytbmngkdnebklpaa
namespace SC
open Go.Proofs
/-- What is wrong with a model of so many steps. -/
noncomputable def trE (c : Circ) (n : Int) (md : List Bool) : Int := if vrE c n ≠ 0 then vrE c n else if (md.length : Int) ≠ 1 + n * c.max then 4 else 0
theorem trE_vr {c : Circ} {n : Int} {md : List Bool} (h : vrE c n ≠ 0) : trE c n md = vrE c n := if_pos h
theorem trE_len {c : Circ} {n : Int} {md : List Bool} (h : vrE c n = 0) (h2 : (md.length : Int) ≠ 1 + n * c.max) : trE c n md = 4 := by unfold trE; rw [if_neg (by omega), if_pos h2]
theorem trE_ok {c : Circ} {n : Int} {md : List Bool} (h : vrE c n = 0) (h2 : (md.length : Int) = 1 + n * c.max) : trE c n md = 0 := by unfold trE; rw [if_neg (by omega), if_neg (by omega)]
theorem trE_zero {c : Circ} {n : Int} {md : List Bool} (h : trE c n md = 0) : vrE c n = 0 ∧ (md.length : Int) = 1 + n * c.max := by
  unfold trE at h
  split at h
  · exact absurd h (by assumption)
  · split at h
    · cases h
    · exact ⟨by omega, by omega⟩
def trI (c : Circ) (md : List Bool) : List Bool := c.latches.map fun x => gt (cut c.max md 0) (x.1 / 2)
def trW (c : Circ) (md : List Bool) (k : Nat) : List Bool := c.inputs.map fun l => gt (cut c.max md k) (l / 2)
def trR (c : Circ) (md : List Bool) (n : Nat) : List (List Bool) := (List.range n).map (trW c md)
theorem trR_succ (c : Circ) (md : List Bool) (n : Nat) : trR c md (n + 1) = trR c md n ++ [trW c md n] := by unfold trR; rw [List.range_succ, List.map_append]; rfl
/-- A trace and an error as an answer. -/
def TrR (ini : List Bool) (rs : List (List Bool)) (lp ε : Int) (v : Value) (N : Mm) : Prop := ∃ ps a b, v = .tuple #[.agg (tcs ⟨ini, ps, lp⟩ a b).toArray, nu ε] ∧ ps.map (·.2) = rs ∧ N = trcB ⟨ini, ps, lp⟩ a b
theorem at_def {c : Circ} {k : Nat} {n l : Int} {md : List Bool} (g : defR c l) (hk : (k : Int) < n) (hmd : (md.length : Int) = 1 + n * c.max) : 1 ≤ atM c.max l (k : Int) ∧ atM c.max l (k : Int) ≤ md.length ∧ gt md (atM c.max l (k : Int) - 1) = gt (cut c.max md k) (l / 2) := by
  unfold defR at g
  have h1 : ((k : Int) + 1) * c.max ≤ n * c.max := Int.mul_le_mul_of_nonneg_right (by omega) (by omega)
  have h2 : 0 ≤ (k : Int) * c.max := Int.mul_nonneg (by omega) (by omega)
  rw [Int.add_mul, Int.one_mul] at h1
  unfold atM
  rw [if_neg (by omega), if_pos (by omega), cut_gt (by omega) (by omega), show 1 + (k : Int) * c.max + l / 2 - 1 = (k : Int) * c.max + l / 2 by omega]
  exact ⟨by omega, by omega, rfl⟩
attribute [local irreducible] WC WL WX WS WO OX Does DoesU Enters CV Pure thenQ blockQ retQ Wants retQC GC GL GS GX RdB thenG blockG retG Rd At gt CVN CVM
set_option maxRecDepth 100000
set_option maxHeartbeats 1600000 in
theorem TraceP_cv {w : World} {c : Circ} {h js : Hd} {n : Int} {S : Option Addr} {k2 : Nat} {md : List Bool} (H : CirIn w c h js) (hS : RowA w booc 1 S md) (hn : md.length ≤ 9223372036854775807) :
    CVN Try.prog 17 [.agg (ccells c h).toArray, nu n, .slice S md.length k2] w (TrR (if trE c n md = 0 then trI c md else []) (if trE c n md = 0 then trR c md n.toNat else []) (if trE c n md = 0 then -1 else 0) (trE c n md)) := by
  have hvr : ∀ Γ, In Γ (.old w none_) → ∀ w', Mem w' Γ → CVN Try.prog 22 [.agg (ccells c h).toArray, nu n] w' _ := fun Γ hi w' M => VarsP16_cv (H.chg (hi.old M))
  have hLat := H.at_.latches
  have hInp := H.at_.inputs
  refine CVN.enterC1 (t := 44) 93 6 7 Try.func17 rfl rfl rfl rfl ?_
  by_cases hz : vrE c n = 0
  · obtain ⟨he, n1, n2, n3⟩ := vrE_zero hz
    have R := right_of H.at_ H.sane he
    have m0 := R.m0
    have m1 := R.m1
    have l1 := R.nIn
    have l2 := R.nLat
    rw [hz, vrM_ok hz] at hvr
    by_cases hl : (md.length : Int) = 1 + n * c.max
    · rw [trE_ok hz hl, if_pos rfl, if_pos rfl, if_pos rfl]
      have hat : ∀ (k : Nat) (l : Int), (k : Int) < n → defR c l → ∀ Γ, ∀ w', Mem w' Γ → CVN Try.prog 43 [.agg (ccells c h).toArray, nu l, nu (k : Int)] w' fun v N => N = [] ∧ v = nu (atM c.max l (k : Int)) := fun k l hk g Γ w' M => by
        unfold defR at g
        obtain ⟨z0, z1⟩ := mul_le (by omega : 0 ≤ (k : Int)) (by omega : (k : Int) ≤ 600) m0 m1
        exact at_cv (h := h) (by omega) (by omega) z0 z1
      repeat' (first
 | (apply G_call; eq_refl; eq_refl; (apply hvr; (repeat first | exact In.here | apply In.there | apply In.skip)); rintro _ _ ⟨rfl, rfl⟩)
 | (apply GC_seqK; intro K hK)
 | (apply hK; clear hK K)
 | (apply GC_block)
 | (apply GC_region)
 | (apply GL_nil)
 | (apply thenG_normal)
 | (apply GC_skip)
 | (apply GC_if_false; eq_refl)
 | (apply GL_on; eq_refl; eq_refl)
 | (apply G_pv; eq_refl; first | exact trivial | omega)
 | (apply G_field; eq_refl)
 | (apply G_ld; eq_refl; (repeat first | exact In.here | apply In.there | apply In.skip); eq_refl)
 | (apply G_ldW; eq_refl; (repeat first | exact In.here | apply In.there | apply In.skip); eq_refl)
 | (apply G_cmpF; eq_refl; eq_refl; omega)
 | (apply G_len; eq_refl)
 | (apply G_alloc; eq_refl; intro _)
 | (apply G_box; eq_refl; eq_refl; intro _)
 | (apply G_stW; (first | exact wr_p | kernel_rfl); eq_refl; eq_refl; eq_refl; eq_refl; (repeat first | exact Upd.here | apply Upd.there | apply Upd.skip); eq_refl)
 | (apply GX_pure; apply build69_0 <;> eq_refl)
 | (apply GX_pure; apply build44_2 <;> eq_refl))
      rename_i b3 b6 b10 b11
      refine GC_loopK [1, 2, 3, 6, 10, 11, 37, 38] (fun s : Nat × List Bool × Option Addr × Nat => [(39, nu s.1)]) (fun s => [.box b11 44 [.slice s.2.2.1 s.2.1.length s.2.2.2, .slice none 0 0, nu (-1)], .vec booc 1 4 s.2.2.1 s.2.2.2 s.2.1, .box b10 69 (ccells c h), .box b6 44 [.slice none 0 0, .slice none 0 0, nu 0], .box b3 29 (ccells c h), .old w none_])
        (fun s => s.1 ≤ c.latches.length ∧ s.2.1 = (c.latches.take s.1).map fun x => gt (cut c.max md 0) (x.1 / 2)) (fun s => c.latches.length - s.1) (0, [], none, 0) (by repeat first | exact Pick.nil | (apply Pick.cons; eq_refl)) (by repeat first | exact trivial | refine ⟨rfl, ?_⟩) (by repeat first | exact Wk.nil | exact Wk.refl | (apply Wk.cons; (focus ((repeat first | exact Rem.here | apply Rem.there | apply Rem.skip); done))) | apply Wk.nilv | apply Wk.last | apply Wk.drop) ⟨Nat.zero_le _, rfl⟩ ?_
      rintro ⟨i, ini, A, kA⟩ ⟨hi, hini⟩
      dsimp only at hi hini ⊢
      have hil : ini.length = i := by have := congrArg List.length hini; simp at this; omega
      rcases Nat.lt_or_ge i c.latches.length with hlt | hge
      · have g1 := (R.lat (gt_mem (l := c.latches) (i := (i : Int)) (by omega) (by omega))).1
        obtain ⟨q1, q2, q3⟩ := at_def (k := 0) g1 (by omega) hl
        have ha := hat 0 _ (by omega) g1
        have e5 := List.take_succ_eq_append_getElem hlt
        rw [← gt_nat hlt] at e5
        rw [show ((0 : Nat) : Int) = 0 by omega] at q1 q2 q3 ha
        generalize atM c.max (gt c.latches (i : Int)).1 0 = y at *
        repeat' (first
 | (apply G_call; eq_refl; eq_refl; (apply ha); rintro _ _ ⟨rfl, rfl⟩)
 | (apply GC_seqK; intro K hK)
 | (apply hK; clear hK K)
 | (apply GC_block)
 | (apply GC_region)
 | (apply GL_nil)
 | (apply thenG_normal)
 | (apply blockG_normal)
 | (apply GC_skip)
 | (apply GC_if_true; eq_refl)
 | (apply GL_on; eq_refl; eq_refl)
 | (refine GC_draws (id := 11) [.q 0, .q 1, .q 2, .q 3, .q 4, .q 5, .c 6, .q 7, .q 8, .q 9, .c 10, .c 11, .q 12, .c 13] mixed (by kernel_rfl) (by kernel_rfl) ?_)
 | (apply GS_nil)
 | (apply GS_qon; eq_refl; eq_refl; eq_refl; eq_refl)
 | (apply GS_con; eq_refl; eq_refl; eq_refl; eq_refl)
 | (apply G_pv; eq_refl; first | exact trivial | omega)
 | (apply G_field; eq_refl)
 | (apply G_ld; eq_refl; (repeat first | exact In.here | apply In.there | apply In.skip); eq_refl)
 | (apply G_ldW; eq_refl; (repeat first | exact In.here | apply In.there | apply In.skip); eq_refl)
 | (apply G_rd; eq_refl; (first | (apply Rd.own; (repeat first | exact In.here | apply In.there | apply In.skip); infer_instance) | (apply Rd.old; (repeat first | exact In.here | apply In.there | apply In.skip); assumption) | (apply Rd.oldR; (repeat first | exact In.here | apply In.there | apply In.skip); assumption) | exact Rd.nil | assumption); (case ih => infer_instance); omega; omega; eq_refl)
 | (apply G_rdW; eq_refl; (first | (apply Rd.own; (repeat first | exact In.here | apply In.there | apply In.skip); infer_instance) | (apply Rd.old; (repeat first | exact In.here | apply In.there | apply In.skip); assumption) | (apply Rd.oldR; (repeat first | exact In.here | apply In.there | apply In.skip); assumption) | exact Rd.nil | assumption); infer_instance; (case ih => infer_instance); omega; omega)
 | (apply G_cmpT; eq_refl; eq_refl; omega)
 | (apply G_ix; eq_refl; eq_refl; (first | (apply Rd.own; (repeat first | exact In.here | apply In.there | apply In.skip); infer_instance) | (apply Rd.old; (repeat first | exact In.here | apply In.there | apply In.skip); assumption) | (apply Rd.oldR; (repeat first | exact In.here | apply In.there | apply In.skip); assumption) | exact Rd.nil | assumption); (first | eq_refl | omega); omega; omega)
 | (apply G_alloc; eq_refl; intro _)
 | (apply G_st; (first | exact wr_p | kernel_rfl); eq_refl; eq_refl; eq_refl; eq_refl; (repeat first | exact Upd.here | apply Upd.there | apply Upd.skip); (first | decide | exact Nat.le_of_ble_eq_true rfl))
 | (apply G_stW; (first | exact wr_p | kernel_rfl); eq_refl; eq_refl; eq_refl; eq_refl; (repeat first | exact Upd.here | apply Upd.there | apply Upd.skip); eq_refl)
 | (apply G_app; (first | exact wr_p | kernel_rfl); eq_refl; eq_refl; (intro A c; (repeat first | exact Upd.here | apply Upd.there | apply Upd.skip)); infer_instance; (repeat first | exact In.here | apply In.there | apply In.skip); (repeat first | exact Dec.nil | apply Dec.pr | apply Dec.tr | (apply Dec.c1; eq_refl) | (apply Dec.c2; eq_refl) | (apply Dec.c3; eq_refl)); eq_refl; eq_refl; eq_refl; ((try simp only [List.length_append, List.length_cons, List.length_nil]); omega); decide; intro _ _)
 | (apply G_new (fun b => .slice (some ⟨b, 0, none⟩) 1 1); eq_refl; (intro _; apply buildS41_1 <;> eq_refl); intro _))
        rename_i b13 A8 k8
        refine ⟨(i + 1, ini ++ [gt md (y - 1)], A8, k8), (by repeat first | exact trivial | refine ⟨rfl, ?_⟩), (by repeat first | exact Wk.nil | exact Wk.refl | (apply Wk.cons; (focus ((repeat first | exact Rem.here | apply Rem.there | apply Rem.skip); done))) | apply Wk.nilv | apply Wk.last | apply Wk.drop), ⟨hlt, ?_⟩, by dsimp only; omega⟩
        dsimp only
        rw [e5, List.map_append, ← hini, q3]
        rfl
      · obtain rfl : i = c.latches.length := by omega
        rw [List.take_length] at hini
        obtain rfl : ini = trI c md := hini
        repeat' (first
 | (apply GC_seqK; intro K hK)
 | (apply hK; clear hK K)
 | (clear hK K; apply hK; clear hK K)
 | (apply GC_block)
 | (apply GC_region)
 | (apply GL_nil)
 | (apply thenG_normal)
 | (apply thenG_exit)
 | (apply blockG_hit)
 | (apply GC_exit)
 | (apply GC_if_false; eq_refl)
 | (apply GL_on; eq_refl; eq_refl)
 | (apply G_pv; eq_refl; first | exact trivial | omega)
 | (apply G_cmpF; eq_refl; eq_refl; omega))
        refine GC_loopK [1, 2, 3, 6, 10, 11, 57] (fun s : Nat × List (Hdl × List Bool) × Option Addr × Nat => [(58, nu s.1)]) (fun s => .box b11 44 [.slice A (trI c md).length kA, .slice s.2.2.1 s.2.1.length s.2.2.2, nu (-1)] :: .vec booc 1 4 A kA (trI c md) :: .vec encS 1 41 s.2.2.1 s.2.2.2 s.2.1 :: .box b10 69 (ccells c h) :: .box b6 44 [.slice none 0 0, .slice none 0 0, nu 0] :: .box b3 29 (ccells c h) :: .old w none_ :: fam rowE s.2.1)
          (fun s => (s.1 : Int) ≤ n ∧ s.2.1.map (·.2) = trR c md s.1) (fun s => n.toNat - s.1) (0, [], none, 0) (by repeat first | exact Pick.nil | (apply Pick.cons; eq_refl)) (by repeat first | exact trivial | refine ⟨rfl, ?_⟩) (by repeat first | exact Wk.nil | exact Wk.refl | (apply Wk.cons; (focus ((repeat first | exact Rem.here | apply Rem.there | apply Rem.skip); done))) | apply Wk.nilv | apply Wk.last | apply Wk.drop) ⟨by dsimp only; omega, rfl⟩ ?_
        rintro ⟨k, ps, B, kB⟩ ⟨hk, hps⟩
        dsimp only at hk hps ⊢
        have hpl : ps.length = k := by rw [map_len hps]; unfold trR; simp
        rcases Int.lt_or_le (k : Int) n with hlt | hge
        · have fl0 : fillL (fun l => gt (cut c.max md k) (l / 2)) c.inputs false 0 = List.replicate c.inputs.length false := fillL_0
          repeat' (first
 | (apply G_make booc; eq_refl; eq_refl; eq_refl; omega; decide; intro b15)
 | (apply GC_seqK; intro K hK)
 | (apply hK; clear hK K)
 | (apply GC_block)
 | (apply GC_region)
 | (apply GL_nil)
 | (apply thenG_normal)
 | (apply GC_skip)
 | (apply GC_if_true; eq_refl)
 | (apply GL_on; eq_refl; eq_refl)
 | (apply G_pv; eq_refl; first | exact trivial | omega)
 | (apply G_field; eq_refl)
 | (apply G_ld; eq_refl; (repeat first | exact In.here | apply In.there | apply In.skip); eq_refl)
 | (apply G_cmpT; eq_refl; eq_refl; omega)
 | (apply G_len; eq_refl))
          refine GC_loopK [1, 2, 3, 6, 10, 11, 14, 15, 57, 58, 66, 67] (fun s : Nat × List Bool => [(68, nu s.1)]) (fun s => .vec booc 1 4 (some ⟨b15, 0, none⟩) c.inputs.length s.2 :: .box b11 44 [.slice A (trI c md).length kA, .slice B ps.length kB, nu (-1)] :: .vec booc 1 4 A kA (trI c md) :: .vec encS 1 41 B kB ps :: .box b10 69 (ccells c h) :: .box b6 44 [.slice none 0 0, .slice none 0 0, nu 0] :: .box b3 29 (ccells c h) :: .old w none_ :: fam rowE ps)
            (fun s => s.1 ≤ c.inputs.length ∧ s.2 = fillL (fun l => gt (cut c.max md k) (l / 2)) c.inputs false s.1) (fun s => c.inputs.length - s.1) (0, List.replicate c.inputs.length false) (by repeat first | exact Pick.nil | (apply Pick.cons; eq_refl)) (by repeat first | exact trivial | refine ⟨rfl, ?_⟩) (by repeat first | exact Wk.nil | exact Wk.refl | (apply Wk.cons; (focus ((repeat first | exact Rem.here | apply Rem.there | apply Rem.skip); done))) | apply Wk.nilv | apply Wk.last | apply Wk.drop) ⟨Nat.zero_le _, fl0.symm⟩ ?_
          rintro ⟨i, row⟩ ⟨hi2, hrow⟩
          dsimp only at hi2 hrow ⊢
          have hrl : row.length = c.inputs.length := by rw [hrow]; exact fillL_len hi2
          rcases Nat.lt_or_ge i c.inputs.length with hlt2 | hge2
          · have g1 := R.inp (gt_mem (l := c.inputs) (i := (i : Int)) (by omega) (by omega))
            obtain ⟨q1, q2, q3⟩ := at_def (k := k) g1 hlt hl
            have ha := hat k _ hlt g1
            have e5 := fillL_set (f := fun l => gt (cut c.max md k) (l / 2)) (z := false) hlt2
            rw [← q3, ← hrow] at e5
            generalize atM c.max (gt c.inputs (i : Int)) (k : Int) = y at *
            repeat' (first
 | (apply G_call; eq_refl; eq_refl; (apply ha); rintro _ _ ⟨rfl, rfl⟩)
 | (apply GC_seqK; intro K hK)
 | (apply hK; clear hK K)
 | (apply GC_block)
 | (apply GC_region)
 | (apply GL_nil)
 | (apply thenG_normal)
 | (apply blockG_normal)
 | (apply GC_skip)
 | (apply GC_if_true; eq_refl)
 | (apply GL_on; eq_refl; eq_refl)
 | (apply G_pv; eq_refl; first | exact trivial | omega)
 | (apply G_ldW; eq_refl; (repeat first | exact In.here | apply In.there | apply In.skip); eq_refl)
 | (apply G_rd; eq_refl; (first | (apply Rd.own; (repeat first | exact In.here | apply In.there | apply In.skip); infer_instance) | (apply Rd.old; (repeat first | exact In.here | apply In.there | apply In.skip); assumption) | (apply Rd.oldR; (repeat first | exact In.here | apply In.there | apply In.skip); assumption) | exact Rd.nil | assumption); (case ih => infer_instance); omega; omega; eq_refl)
 | (apply G_cmpT; eq_refl; eq_refl; omega)
 | (apply G_ix; eq_refl; eq_refl; (first | (apply Rd.own; (repeat first | exact In.here | apply In.there | apply In.skip); infer_instance) | (apply Rd.old; (repeat first | exact In.here | apply In.there | apply In.skip); assumption) | (apply Rd.oldR; (repeat first | exact In.here | apply In.there | apply In.skip); assumption) | exact Rd.nil | assumption); (first | eq_refl | omega); omega; omega)
 | (apply G_stV; (first | exact wr_p | kernel_rfl); eq_refl; eq_refl; eq_refl; eq_refl; (repeat first | exact Upd.here | apply Upd.there | apply Upd.skip); infer_instance; infer_instance; eq_refl; omega; (try simp only [List.length_set, List.length_append, List.length_replicate]); omega))
            refine ⟨(i + 1, row.set (i : Int).toNat (gt md (y - 1))), (by repeat first | exact trivial | refine ⟨rfl, ?_⟩), (by repeat first | exact Wk.nil | exact Wk.refl | (apply Wk.cons; (focus ((repeat first | exact Rem.here | apply Rem.there | apply Rem.skip); done))) | apply Wk.nilv | apply Wk.last | apply Wk.drop), ⟨hlt2, e5⟩, by dsimp only; omega⟩
          · obtain rfl : i = c.inputs.length := by omega
            rw [fillL_all (Nat.le_refl _)] at hrow
            obtain rfl : row = trW c md k := hrow
            have hD : Dec encS [.slice (some ⟨b15, 0, none⟩) c.inputs.length c.inputs.length] [((some ⟨b15, 0, none⟩, c.inputs.length), trW c md k)] := by
              have := Dec.one (enc := encS) (((some ⟨b15, 0, none⟩, c.inputs.length), trW c md k) : Hdl × List Bool)
              unfold encS at this
              dsimp only at this
              rwa [hrl] at this
            repeat' (first
 | (apply G_app; (first | exact wr_p | kernel_rfl); eq_refl; eq_refl; (intro A c; (repeat first | exact Upd.here | apply Upd.there | apply Upd.skip)); infer_instance; (repeat first | exact In.here | apply In.there | apply In.skip); exact hD; eq_refl; eq_refl; eq_refl; (simp only [List.length_cons, List.length_nil]; omega); decide; intro A14 k14)
 | (apply GC_seqK; intro K hK)
 | (apply hK; clear hK K)
 | (clear hK K; apply hK; clear hK K)
 | (apply GC_region)
 | (apply GL_nil)
 | (apply thenG_normal)
 | (apply thenG_exit)
 | (apply blockG_hit)
 | (apply blockG_normal)
 | (apply GC_exit)
 | (apply GC_if_false; eq_refl)
 | (apply GL_on; eq_refl; eq_refl)
 | (apply G_pv; eq_refl; first | exact trivial | omega)
 | (apply G_field; eq_refl)
 | (apply G_ld; eq_refl; (repeat first | exact In.here | apply In.there | apply In.skip); eq_refl)
 | (apply G_cmpF; eq_refl; eq_refl; omega)
 | (apply G_st; (first | exact wr_p | kernel_rfl); eq_refl; eq_refl; eq_refl; eq_refl; (repeat first | exact Upd.here | apply Upd.there | apply Upd.skip); (first | decide | exact Nat.le_of_ble_eq_true rfl))
 | (apply G_new (fun b => .slice (some ⟨b, 0, none⟩) 1 1); eq_refl; (intro _; apply buildS42_1 <;> eq_refl); intro _))
            refine ⟨(k + 1, ps ++ [((some ⟨b15, 0, none⟩, c.inputs.length), trW c md k)], A14, k14), (by repeat first | exact trivial | refine ⟨rfl, ?_⟩), ?_, ⟨by dsimp only; omega, ?_⟩, by dsimp only; omega⟩
            · dsimp only
              rw [fam_snoc]
              exact (by repeat first | exact Wk.nil | exact Wk.refl | (apply Wk.cons; (focus ((repeat first | exact Rem.here | apply Rem.there | apply Rem.skip); done))) | apply Wk.nilv | apply Wk.last | apply Wk.drop)
            · dsimp only
              rw [List.map_append, hps, trR_succ]
              rfl
        · obtain rfl : n = (k : Int) := by omega
          repeat' (first
 | (apply GC_seqK; intro K hK)
 | (apply hK; clear hK K)
 | (clear hK K; apply hK; clear hK K)
 | (apply GC_region)
 | (apply GL_nil)
 | (apply thenG_normal)
 | (apply thenG_exit)
 | (apply blockG_hit)
 | (apply GC_ret)
 | (apply GC_exit)
 | (apply GC_if_false; eq_refl)
 | (apply retGC1r; eq_refl; (repeat first | exact In.here | apply In.there | apply In.skip); eq_refl; eq_refl)
 | (apply GL_on; eq_refl; eq_refl)
 | (apply G_pv; eq_refl; first | exact trivial | omega)
 | (apply G_ldW; eq_refl; (repeat first | exact In.here | apply In.there | apply In.skip); eq_refl)
 | (apply G_cmpF; eq_refl; eq_refl; omega)
 | (apply G_stW; (first | exact wr_p | kernel_rfl); eq_refl; eq_refl; eq_refl; eq_refl; (repeat first | exact Upd.here | apply Upd.there | apply Upd.skip); eq_refl))
          refine ⟨_, ?_, ps, (A, kA), (B, kB), rfl, hps, rfl⟩
          exact (by repeat first | exact Wk.nil | exact Wk.refl | (apply Wk.cons; (focus ((repeat first | exact Rem.here | apply Rem.there | apply Rem.skip); done))) | apply Wk.nilv | apply Wk.last | apply Wk.drop)
    · have e0 := trE_len hz hl
      have e1 : trE c n md ≠ 0 := by rw [e0]; decide
      rw [if_neg e1, if_neg e1, if_neg e1, e0]
      repeat' (first
 | (apply G_call; eq_refl; eq_refl; (apply hvr; (repeat first | exact In.here | apply In.there | apply In.skip)); rintro _ _ ⟨rfl, rfl⟩)
 | (apply GC_seqK; intro K hK)
 | (apply hK; clear hK K)
 | (apply GC_region)
 | (apply GL_nil)
 | (apply thenG_normal)
 | (apply thenG_ret)
 | (apply GC_ret)
 | (apply GC_skip)
 | (apply GC_if_true; eq_refl)
 | (apply GC_if_false; eq_refl)
 | (apply retGC1r; eq_refl; (repeat first | exact In.here | apply In.there | apply In.skip); eq_refl; eq_refl)
 | (apply GL_on; eq_refl; eq_refl)
 | (apply G_pv; eq_refl; first | exact trivial | omega)
 | (apply G_ldW; eq_refl; (repeat first | exact In.here | apply In.there | apply In.skip); eq_refl)
 | (apply G_cmpT; eq_refl; eq_refl; omega)
 | (apply G_cmpF; eq_refl; eq_refl; omega)
 | (apply G_len; eq_refl)
 | (apply G_alloc; eq_refl; intro _)
 | (apply G_box; eq_refl; eq_refl; intro _)
 | (apply G_stW; (first | exact wr_p | kernel_rfl); eq_refl; eq_refl; eq_refl; eq_refl; (repeat first | exact Upd.here | apply Upd.there | apply Upd.skip); eq_refl)
 | (apply GX_pure; apply build44_))
      exact ⟨_, (by repeat first | exact Wk.nil | exact Wk.refl | (apply Wk.cons; (focus ((repeat first | exact Rem.here | apply Rem.there | apply Rem.skip); done))) | apply Wk.nilv | apply Wk.last | apply Wk.drop), [], (none, 0), (none, 0), rfl, rfl, rfl⟩
  · have e0 := trE_vr (md := md) hz
    have e1 : trE c n md ≠ 0 := by rw [e0]; exact hz
    rw [if_neg e1, if_neg e1, if_neg e1, e0]
    rw [vrM_no hz] at hvr
    generalize vrE c n = ε at *
    repeat' (first
 | (apply G_call; eq_refl; eq_refl; (apply hvr; (repeat first | exact In.here | apply In.there | apply In.skip)); rintro _ _ ⟨rfl, rfl⟩)
 | (apply GC_seqK; intro K hK)
 | (apply hK; clear hK K)
 | (apply GC_region)
 | (apply GL_nil)
 | (apply thenG_normal)
 | (apply thenG_ret)
 | (apply GC_ret)
 | (apply GC_if_true; eq_refl)
 | (apply retGC1r; eq_refl; (repeat first | exact In.here | apply In.there | apply In.skip); eq_refl; eq_refl)
 | (apply GL_on; eq_refl; eq_refl)
 | (apply G_pv; eq_refl; first | exact trivial | omega)
 | (apply G_ldW; eq_refl; (repeat first | exact In.here | apply In.there | apply In.skip); eq_refl)
 | (apply G_cmpT; eq_refl; eq_refl; omega)
 | (apply G_alloc; eq_refl; intro _)
 | (apply G_box; eq_refl; eq_refl; intro _)
 | (apply G_stW; (first | exact wr_p | kernel_rfl); eq_refl; eq_refl; eq_refl; eq_refl; (repeat first | exact Upd.here | apply Upd.there | apply Upd.skip); eq_refl)
 | (apply GX_pure; apply build44_))
    exact ⟨_, (by repeat first | exact Wk.nil | exact Wk.refl | (apply Wk.cons; (focus ((repeat first | exact Rem.here | apply Rem.there | apply Rem.skip); done))) | apply Wk.nilv | apply Wk.last | apply Wk.drop), [], (none, 0), (none, 0), rfl, rfl, rfl⟩
end SC
end Go.Proofs.Ytbmngkdnebklpaa
end
section
/- frames: Model: the walk. -/
set_option linter.unusedVariables false
set_option linter.unusedSimpArgs false
namespace Go.Proofs.Ytbmngkdnebklpaa
namespace SC
open Go.Proofs
/-- A trace that does not come round. -/
abbrev strt (t : Trc) : Trc := ⟨t.init, t.rows, -1⟩
noncomputable def allH (c : Circ) (t : Trc) (n : Nat) : Bool := (List.range n).all fun k => c.constraints.all (lv (vk c t k))
/-- What is wrong with a trace of so many steps. -/
noncomputable def mtE (c : Circ) (n : Int) (t : Trc) : Int := if vrE c n ≠ 0 then vrE c n else if (t.rows.length : Int) ≠ n then 4 else if runE c (strt t) ≠ 0 then runE c (strt t) else if (startsM c t.init c.latches.length && allH c (strt t) t.rows.length) = true then 0 else 3
theorem mtE_vr {c : Circ} {n : Int} {t : Trc} (h : vrE c n ≠ 0) : mtE c n t = vrE c n := if_pos h
theorem mtE_len {c : Circ} {n : Int} {t : Trc} (h : vrE c n = 0) (h2 : (t.rows.length : Int) ≠ n) : mtE c n t = 4 := by unfold mtE; rw [if_neg (by omega), if_pos h2]
theorem mtE_run {c : Circ} {n : Int} {t : Trc} (h : vrE c n = 0) (h2 : (t.rows.length : Int) = n) (h3 : runE c (strt t) ≠ 0) : mtE c n t = runE c (strt t) := by unfold mtE; rw [if_neg (by omega), if_neg (by omega), if_pos h3]
theorem mtE_ok {c : Circ} {n : Int} {t : Trc} (h : vrE c n = 0) (h2 : (t.rows.length : Int) = n) (h3 : runE c (strt t) = 0) (h4 : (startsM c t.init c.latches.length && allH c (strt t) t.rows.length) = true) : mtE c n t = 0 := by unfold mtE; rw [if_neg (by omega), if_neg (by omega), if_neg (by omega), if_pos h4]
theorem mtE_no {c : Circ} {n : Int} {t : Trc} (h : vrE c n = 0) (h2 : (t.rows.length : Int) = n) (h3 : runE c (strt t) = 0) (h4 : (startsM c t.init c.latches.length && allH c (strt t) t.rows.length) = false) : mtE c n t = 3 := by unfold mtE; rw [if_neg (by omega), if_neg (by omega), if_neg (by omega), if_neg (by rw [h4]; decide)]
/-- What the model of a run is. -/
structure GoodM (c : Circ) (t : Trc) (n : Nat) (out : List Bool) : Prop where
  len : (out.length : Int) = 1 + (n : Int) * c.max
  zero : gt out 0 = false
  at_ : ∀ k < n, ∀ x : Int, 1 ≤ x → x ≤ c.max → gt out ((k : Int) * c.max + x) = gt (vk c t k) x
theorem GoodM.cut {c : Circ} {t : Trc} {n : Nat} {out : List Bool} (R : Right c) (h : GoodM c t n out) {k : Nat} (hk : k < n) : cut c.max out k = vk c t k := by
  have m0 := R.m0
  have V := val_ok R (stM c t k) (gt t.rows (k : Int)).2
  obtain ⟨N, rfl⟩ : ∃ N, n = N + 1 := ⟨n - 1, by omega⟩
  have hl : out.length = 1 + (N + 1) * c.max.toNat := by
    have := h.len
    have e : ((N + 1 : Nat) : Int) * c.max = (((N + 1) * c.max.toNat : Nat) : Int) := by rw [Int.natCast_mul, Int.toNat_of_nonneg m0]
    omega
  have l1 := cut_len (k := k) hl (by omega) m0
  have l2 : (vk c t k).length = (c.max + 1).toNat := V.len
  have key : ∀ i : Nat, i < (c.max + 1).toNat → gt (SC.cut c.max out k) (i : Int) = gt (vk c t k) (i : Int) := fun i hi => by
    rcases i with _ | i
    · exact h.zero.trans V.zero.symm
    · rw [cut_gt (by omega) (by omega)]
      exact h.at_ k hk _ (by omega) (by omega)
  apply List.ext_getElem (by omega)
  intro i h1 h2
  have := key i (by omega)
  rwa [gt_nat h1, gt_nat h2] at this
/-- The model of a run as an answer. -/
def MdR (c : Circ) (t : Trc) (n : Nat) (v : Value) (N : Mm) : Prop := ∃ out A k, v = .tuple #[.slice A out.length k, nu 0] ∧ GoodM c t n out ∧ N = [.vec booc 1 4 A k out]
theorem RdB.runs {Γ : Mm} {A : Option Addr} {k : Nat} {ps : List (HMom × Mom)} (hi : In Γ (.any (bun (runB ps A k)))) : Rd Γ encM 4 A ps := fun w M => (MomsIn.bun hi M).row
theorem gt_run {c : Circ} {t : Trc} {n k : Nat} {ps : List (HMom × Mom)} (h : ps.map (·.2) = runM c t n) (hk : k < n) : (gt ps (k : Int)).2 = momM c (stM c t k) (vk c t k) := by
  have hl := map_len h
  rw [runM_len] at hl
  have h1 : (ps.map (·.2))[k]? = (runM c t n)[k]? := by rw [h]
  unfold runM at h1
  rw [List.getElem?_map, List.getElem?_map, List.getElem?_eq_getElem (by omega), List.getElem?_range hk] at h1
  rw [gt_nat (by omega)]
  exact Option.some.inj h1
theorem any_run {c : Circ} {t : Trc} {n : Nat} {ps : List (HMom × Mom)} (h : ps.map (·.2) = runM c t n) : (ps.any fun p => !p.2.holds) = !allH c t n := by
  have e1 : (ps.any fun p => !p.2.holds) = !((ps.map (·.2)).all fun m => m.holds) := by
    rw [List.all_map, List.not_all_eq_any_not]
    rfl
  rw [e1, h]
  unfold runM allH
  rw [List.all_map]
  rfl
attribute [local irreducible] WC WL WX WS WO OX Does DoesU Enters CV Pure thenQ blockQ retQ Wants retQC GC GL GS GX RdB thenG blockG retG Rd At gt CVN CVM
set_option maxRecDepth 100000
theorem model1_cv {w : World} {p : HMom × Mom} : CVN Try.prog 41 [.agg (encM p).toArray] w fun v N => N = [] ∧ v = .bool (!p.2.holds) := by
  obtain ⟨hm, m⟩ := p
  obtain ⟨st, ho, bd, fr⟩ := m
  refine CVN.enter 6 [2] Try.func41 rfl rfl rfl (by decide) rfl ?_
  cases ho
  all_goals
    repeat' (first
 | (apply GC_seqK; intro K hK)
 | (apply hK; clear hK K)
 | (apply GC_region)
 | (apply GL_nil)
 | (apply thenG_normal)
 | (apply GC_ret)
 | (apply retG1; eq_refl)
 | (apply GL_on; eq_refl; eq_refl)
 | (apply G_pv; eq_refl; first | exact trivial | omega)
 | (apply G_field; eq_refl)
 | (apply G_ld; eq_refl; (repeat first | exact In.here | apply In.there | apply In.skip); eq_refl)
 | (apply G_box; eq_refl; eq_refl; intro _))
    exact ⟨[], (by repeat first | exact Wk.nil | exact Wk.refl | (apply Wk.cons; (focus ((repeat first | exact Rem.here | apply Rem.there | apply Rem.skip); done))) | apply Wk.nilv | apply Wk.last | apply Wk.drop), rfl, rfl⟩
theorem indexMom_cv {w : World} {A : Option Addr} {k : Nat} {ps : List (HMom × Mom)} (H : RowA w encM 4 A ps) (hn : ps.length ≤ 9223372036854775807) :
    CVN Try.prog 69 [.slice A ps.length k, .func (.func 41) #[] #[]] w fun v N => N = [] ∧ ∃ i : Int, v = nu i ∧ decide (0 ≤ i) = ps.any fun p => !p.2.holds := by
  refine CVN.enter 19 [4] Try.func69 rfl rfl rfl (by decide) rfl ?_
  repeat' (first
 | (apply GC_seqK; intro K hK)
 | (apply hK; clear hK K)
 | (apply GC_block)
 | (apply GC_region)
 | (apply GL_nil)
 | (apply thenG_normal)
 | (apply GL_on; eq_refl; eq_refl)
 | (apply G_pv; eq_refl; first | exact trivial | omega)
 | (apply G_len; eq_refl))
  refine GC_loopK [0, 1, 7] (fun i : Nat => [(8, nu i)]) (fun _ => [.old w none_]) (fun i => i ≤ ps.length ∧ ((ps.take i).any fun p => !p.2.holds) = false) (fun i => ps.length - i) 0 (by repeat first | exact Pick.nil | (apply Pick.cons; eq_refl)) (by repeat first | exact trivial | refine ⟨rfl, ?_⟩) (by repeat first | exact Wk.nil | exact Wk.refl | (apply Wk.cons; (focus ((repeat first | exact Rem.here | apply Rem.there | apply Rem.skip); done))) | apply Wk.nilv | apply Wk.last | apply Wk.drop) ⟨Nat.zero_le _, by simp⟩ ?_
  rintro i ⟨hi, hall⟩
  rcases Nat.lt_or_ge i ps.length with hlt | hge
  · have e1 := List.take_succ_eq_append_getElem hlt
    rw [← gt_nat hlt] at e1
    have g1 := gt_mem (l := ps) (i := (i : Int)) (by omega) (by omega)
    have hcl : ∀ Γ, In Γ (.old w none_) → ∀ w', Mem w' Γ → CVN Try.prog 41 ([.agg (encM (gt ps (i : Int))).toArray] ++ (#[] : Array Value).toList) w' _ := fun Γ h0 w' M => model1_cv
    cases hv : (gt ps (i : Int)).2.holds
    all_goals
      rw [hv] at hcl
      repeat' (first
 | (apply G_callF; eq_refl; eq_refl; infer_instance; eq_refl; (apply hcl; (repeat first | exact In.here | apply In.there | apply In.skip)); rintro _ _ ⟨rfl, rfl⟩)
 | (apply GC_seqK; intro K hK)
 | (apply hK; clear hK K)
 | (apply GC_block)
 | (apply GC_region)
 | (apply GL_nil)
 | (apply thenG_normal)
 | (apply thenG_ret)
 | (apply blockG_ret)
 | (apply blockG_normal)
 | (apply GC_ret)
 | (apply GC_skip)
 | (apply GC_if_true; eq_refl)
 | (apply GC_if_false; eq_refl)
 | (apply retG1; eq_refl)
 | (apply GL_on; eq_refl; eq_refl)
 | (apply G_pv; eq_refl; first | exact trivial | omega)
 | (apply G_rdW; eq_refl; (first | (apply Rd.own; (repeat first | exact In.here | apply In.there | apply In.skip); infer_instance) | (apply Rd.old; (repeat first | exact In.here | apply In.there | apply In.skip); assumption) | (apply Rd.oldR; (repeat first | exact In.here | apply In.there | apply In.skip); assumption) | exact Rd.nil | assumption); infer_instance; (case ih => infer_instance); omega; omega)
 | (apply G_cmpT; eq_refl; eq_refl; omega)
 | (apply G_ix; eq_refl; eq_refl; (first | (apply Rd.own; (repeat first | exact In.here | apply In.there | apply In.skip); infer_instance) | (apply Rd.old; (repeat first | exact In.here | apply In.there | apply In.skip); assumption) | (apply Rd.oldR; (repeat first | exact In.here | apply In.there | apply In.skip); assumption) | exact Rd.nil | assumption); (first | eq_refl | omega); omega; omega))
    · refine ⟨[], (by repeat first | exact Wk.nil | exact Wk.refl | (apply Wk.cons; (focus ((repeat first | exact Rem.here | apply Rem.there | apply Rem.skip); done))) | apply Wk.nilv | apply Wk.last | apply Wk.drop), rfl, _, rfl, ?_⟩
      have : (ps.any fun p => !p.2.holds) = true := List.any_eq_true.2 ⟨_, g1, by rw [hv]; rfl⟩
      rw [this]
      simp
    · exact ⟨i + 1, (by repeat first | exact trivial | refine ⟨rfl, ?_⟩), (by repeat first | exact Wk.nil | exact Wk.refl | (apply Wk.cons; (focus ((repeat first | exact Rem.here | apply Rem.there | apply Rem.skip); done))) | apply Wk.nilv | apply Wk.last | apply Wk.drop), ⟨hlt, by rw [e1, List.any_append, hall]; simp [hv]⟩, by omega⟩
  · repeat' (first
 | (apply GC_seqK; intro K hK)
 | (apply hK; clear hK K)
 | (clear hK K; apply hK; clear hK K)
 | (apply GC_region)
 | (apply GL_nil)
 | (apply thenG_normal)
 | (apply thenG_exit)
 | (apply blockG_hit)
 | (apply GC_ret)
 | (apply GC_exit)
 | (apply GC_if_false; eq_refl)
 | (apply retG1; eq_refl)
 | (apply GL_on; eq_refl; eq_refl)
 | (apply G_pv; eq_refl; first | exact trivial | omega)
 | (apply G_cmpF; eq_refl; eq_refl; omega))
    rw [List.take_of_length_le hge] at hall
    exact ⟨[], (by repeat first | exact Wk.nil | exact Wk.refl | (apply Wk.cons; (focus ((repeat first | exact Rem.here | apply Rem.there | apply Rem.skip); done))) | apply Wk.nilv | apply Wk.last | apply Wk.drop), rfl, _, rfl, by rw [hall]; rfl⟩
theorem containsMom_cv {w : World} {A : Option Addr} {k : Nat} {ps : List (HMom × Mom)} (H : RowA w encM 4 A ps) (hn : ps.length ≤ 9223372036854775807) :
    CVN Try.prog 40 [.slice A ps.length k, .func (.func 41) #[] #[]] w fun v N => N = [] ∧ v = .bool (ps.any fun p => !p.2.holds) := by
  have hix : ∀ Γ, In Γ (.old w none_) → ∀ w', Mem w' Γ → CVN Try.prog 69 [.slice A ps.length k, .func (.func 41) #[] #[]] w' _ := fun Γ h0 w' M => indexMom_cv (H.chg (h0.old M)) hn
  refine CVN.enter 9 [4] Try.func40 rfl rfl rfl (by decide) rfl ?_
  repeat' (first
 | (apply G_call; eq_refl; eq_refl; (apply hix; (repeat first | exact In.here | apply In.there | apply In.skip)); rintro _ _ ⟨rfl, i, rfl, hi⟩)
 | (apply GC_seqK; intro K hK)
 | (apply hK; clear hK K)
 | (apply GC_region)
 | (apply GL_nil)
 | (apply thenG_normal)
 | (apply GC_ret)
 | (apply retG1; eq_refl)
 | (apply GL_on; eq_refl; eq_refl)
 | (apply G_pv; eq_refl; first | exact trivial | omega)
 | (apply G_cmpD; eq_refl; eq_refl; (case hd => infer_instance)))
  exact ⟨[], (by repeat first | exact Wk.nil | exact Wk.refl | (apply Wk.cons; (focus ((repeat first | exact Rem.here | apply Rem.there | apply Rem.skip); done))) | apply Wk.nilv | apply Wk.last | apply Wk.drop), rfl, by rw [← hi]⟩
end SC
end Go.Proofs.Ytbmngkdnebklpaa
end
section
/- frames: Model: the walk. -/
set_option linter.unusedVariables false
set_option linter.unusedSimpArgs false
namespace Go.Proofs.Ytbmngkdnebklpaa
namespace SC
open Go.Proofs
theorem gt_put {l : List Bool} {j : Nat} {b : Bool} {z : Int} (hj : j < l.length) : gt (l.set j b) z = if z.toNat = j then b else gt l z := by
  rw [gtB, gtB, List.getD_eq_getElem?_getD, List.getD_eq_getElem?_getD, List.getElem?_set]
  by_cases h : z.toNat = j
  · rw [if_pos h, if_pos h.symm, if_pos hj]
    rfl
  · rw [if_neg h, if_neg (fun e => h e.symm)]
/-- The model of a run, as far as it is made. -/
structure PartM (c : Circ) (t : Trc) (n k i : Nat) (out : List Bool) : Prop where
  len : (out.length : Int) = 1 + (n : Int) * c.max
  zero : gt out 0 = false
  at_ : ∀ k' < k, ∀ x : Int, 1 ≤ x → x ≤ c.max → gt out ((k' : Int) * c.max + x) = gt (vk c t k') x
  cur : ∀ x : Int, 1 ≤ x → x ≤ (i : Int) → gt out ((k : Int) * c.max + x) = gt (vk c t k) x
theorem PartM.start {c : Circ} {t : Trc} {n : Nat} (h : 0 ≤ 1 + (n : Int) * c.max) : PartM c t n 0 0 (List.replicate (1 + (n : Int) * c.max).toNat false) :=
  ⟨by rw [List.length_replicate]; omega, by
    rw [gtB, List.getD_eq_getElem?_getD, List.getElem?_replicate]
    split <;> rfl, fun k hk => absurd hk (Nat.not_lt_zero _), fun x h1 h2 => by omega⟩
theorem row_lt {k k' : Nat} {m : Int} (h : k' < k) (hm : 0 ≤ m) : (k' : Int) * m + m ≤ (k : Int) * m := by
  have h1 : ((k' : Int) + 1) * m ≤ (k : Int) * m := Int.mul_le_mul_of_nonneg_right (by omega) hm
  rw [Int.add_mul, Int.one_mul] at h1
  exact h1
theorem PartM.set {c : Circ} {t : Trc} {n k i : Nat} {out : List Bool} (h : PartM c t n k i out) (hk : k < n) (hi : (i : Int) + 1 ≤ c.max) : PartM c t n k (i + 1) (out.set ((k : Int) * c.max + ((i : Int) + 1)).toNat (gt (vk c t k) ((i : Int) + 1))) := by
  have m0 : 0 ≤ c.max := by omega
  have z0 : 0 ≤ (k : Int) * c.max := Int.mul_nonneg (by omega) m0
  have z1 := row_lt hk m0
  have hl := h.len
  have hj : ((k : Int) * c.max + ((i : Int) + 1)).toNat < out.length := by omega
  refine ⟨by rw [List.length_set]; exact hl, ?_, fun k' hk' x h1 h2 => ?_, fun x h1 h2 => ?_⟩
  · rw [gt_put hj, if_neg (by omega)]
    exact h.zero
  · have z2 := row_lt hk' m0
    have z3 : 0 ≤ (k' : Int) * c.max := Int.mul_nonneg (by omega) m0
    rw [gt_put hj, if_neg (by omega)]
    exact h.at_ k' hk' x h1 h2
  · rw [gt_put hj]
    by_cases e : x = (i : Int) + 1
    · subst e
      rw [if_pos rfl]
    · rw [if_neg (by omega)]
      exact h.cur x h1 (by omega)
theorem PartM.next {c : Circ} {t : Trc} {n k i : Nat} {out : List Bool} (h : PartM c t n k i out) (hi : c.max ≤ (i : Int)) : PartM c t n (k + 1) 0 out :=
  ⟨h.len, h.zero, fun k' hk' x h1 h2 => by
    rcases Nat.lt_or_ge k' k with hlt | hge
    · exact h.at_ k' hlt x h1 h2
    · obtain rfl : k' = k := by omega
      exact h.cur x h1 (by omega), fun x h1 h2 => by omega⟩
theorem PartM.done {c : Circ} {t : Trc} {n : Nat} {out : List Bool} (h : PartM c t n n 0 out) : GoodM c t n out := ⟨h.len, h.zero, h.at_⟩
theorem TrcIn.strt {w : World} {t : Trc} {a b : Hdl} (H : TrcIn w t a b) : TrcIn w (strt t) a b := ⟨H.init, H.rows, H.each, H.nila, H.nilb, H.nile, H.li, H.lr, H.le, show fits (-1) from ⟨by decide, by decide⟩⟩
attribute [local irreducible] WC WL WX WS WO OX Does DoesU Enters CV Pure thenQ blockQ retQ Wants retQC GC GL GS GX RdB thenG blockG retG Rd At gt CVN CVM
attribute [local irreducible] bun
set_option maxRecDepth 100000
set_option maxHeartbeats 1600000 in
theorem ModelF_cv {w : World} {c : Circ} {h js : Hd} {n : Int} {t : Trc} {a b : Hdl} (H : CirIn w c h js) (HT : TrcIn w t a b) :
    CVN Try.prog 14 [.agg (ccells c h).toArray, nu n, .agg (tcs t a b).toArray] w fun v N => (mtE c n t = 0 ∧ MdR c (strt t) n.toNat v N) ∨ (mtE c n t ≠ 0 ∧ v = .tuple #[.slice none 0 0, nu (mtE c n t)] ∧ N = []) := by
  have hvr : ∀ Γ, In Γ (.old w none_) → ∀ w', Mem w' Γ → CVN Try.prog 22 [.agg (ccells c h).toArray, nu n] w' _ := fun Γ hi w' M => VarsP16_cv (H.chg (hi.old M))
  have hrun : ∀ Γ, In Γ (.old w none_) → ∀ w', Mem w' Γ → CVN Try.prog 38 [.agg (ccells c h).toArray, .agg #[.slice a.1 t.init.length a.2, .slice b.1 t.rows.length b.2, nu (-1)]] w' (RunB (runE c (strt t)) (runsM c (strt t))) := fun Γ hi w' M => RunB.to (RunR.to (Run_cv (t := strt t) (H.chg (hi.old M)) (HT.strt.chg (hi.old M))) rfl rfl)
  have hRow := HT.rows
  have hlr := HT.lr
  refine CVN.enter 106 [6, 7] Try.func14 rfl rfl rfl (by decide) rfl ?_
  by_cases hz : vrE c n = 0
  · obtain ⟨he, n1, n2, n3⟩ := vrE_zero hz
    have R := right_of H.at_ H.sane he
    have m0 := R.m0
    have m1 := R.m1
    rw [hz, vrM_ok hz] at hvr
    by_cases hl : (t.rows.length : Int) = n
    · by_cases hr : runE c (strt t) = 0
      · have F := (runE_zero hr).2
        have hsE : startE c t.init = 0 := by unfold startE; rw [if_neg (by omega), if_neg (by have := F.init; dsimp only [strt] at this; omega)]
        have hsB : startB c t.init = startsM c t.init c.latches.length := by unfold startB; rw [if_pos hsE]
        have hst : ∀ Γ, In Γ (.old w none_) → ∀ w', Mem w' Γ → CVN Try.prog 39 [.agg (ccells c h).toArray, .slice a.1 t.init.length a.2] w' fun v N => v = .tuple #[.bool (startsM c t.init c.latches.length), nu 0] ∧ N = [] := fun Γ hi w' M => by
          have := StartsP_cv (k2 := a.2) (H.chg (hi.old M)) (HT.init.chg (hi.old M))
          rwa [hsE, hsB] at this
        have hrs : runsM c (strt t) = runM c (strt t) t.rows.length := if_pos hr
        rw [hr, hrs] at hrun
        have hco : ∀ Γ A k ps, In Γ (.any (bun (runB ps A k))) → ps.map (·.2) = runM c (strt t) t.rows.length → ∀ w', Mem w' Γ → CVN Try.prog 40 [.slice A ps.length k, .func (.func 41) #[] #[]] w' fun v N => N = [] ∧ v = .bool (!allH c (strt t) t.rows.length) := fun Γ A k ps hi e w' M => by
          have := containsMom_cv (k := k) ((RdB.runs hi).at M) (MomsIn.bun hi M).len
          rwa [any_run e] at this
        cases hs : startsM c t.init c.latches.length
        · have e0 := mtE_no hz hl hr (by rw [hs]; rfl)
          rw [hs] at hst
          rw [e0]
          repeat' (first
 | (apply G_call; eq_refl; eq_refl; (apply hvr; (repeat first | exact In.here | apply In.there | apply In.skip)); rintro _ _ ⟨rfl, rfl⟩)
 | (apply G_call; eq_refl; eq_refl; (apply hrun; (repeat first | exact In.here | apply In.there | apply In.skip)); rintro _ _ ⟨ps, A9, k9, rfl, hps, rfl⟩)
 | (apply G_call; eq_refl; eq_refl; (apply hst; (repeat first | exact In.here | apply In.there | apply In.skip)); rintro _ _ ⟨rfl, rfl⟩)
 | (apply GC_seqK; intro K hK)
 | (apply hK; clear hK K)
 | (apply GC_region)
 | (apply GL_nil)
 | (apply thenG_normal)
 | (apply thenG_ret)
 | (apply GC_ret)
 | (apply GC_skip)
 | (apply GC_if_true; eq_refl)
 | (apply GC_if_false; eq_refl)
 | (apply retG2; eq_refl; eq_refl)
 | (apply GL_on; eq_refl; eq_refl)
 | (apply GL_off; eq_refl; eq_refl)
 | (apply G_pv; eq_refl; first | exact trivial | omega)
 | (apply G_field; eq_refl)
 | (apply G_ld; eq_refl; (repeat first | exact In.here | apply In.there | apply In.skip); eq_refl)
 | (apply G_ldW; eq_refl; (repeat first | exact In.here | apply In.there | apply In.skip); eq_refl)
 | (apply G_cmpF; eq_refl; eq_refl; omega)
 | (apply G_len; eq_refl)
 | (apply G_box; eq_refl; eq_refl; intro _)
 | (apply GX_pure; apply build44_0_1_2 <;> eq_refl))
          exact ⟨[], (by repeat first | exact Wk.nil | exact Wk.refl | (apply Wk.cons; (focus ((repeat first | exact Rem.here | apply Rem.there | apply Rem.skip); done))) | apply Wk.nilv | apply Wk.last | apply Wk.drop), .inr ⟨by decide, rfl, rfl⟩⟩
        · rw [hs] at hst
          cases ha : allH c (strt t) t.rows.length
          · have e0 := mtE_no hz hl hr (by rw [hs, ha]; rfl)
            rw [ha] at hco
            rw [e0]
            repeat' (first
 | (apply G_call; eq_refl; eq_refl; (apply hvr; (repeat first | exact In.here | apply In.there | apply In.skip)); rintro _ _ ⟨rfl, rfl⟩)
 | (apply G_call; eq_refl; eq_refl; (apply hrun; (repeat first | exact In.here | apply In.there | apply In.skip)); rintro _ _ ⟨ps, A9, k9, rfl, hps, rfl⟩)
 | (apply G_call; eq_refl; eq_refl; (apply hst; (repeat first | exact In.here | apply In.there | apply In.skip)); rintro _ _ ⟨rfl, rfl⟩)
 | (apply G_call; eq_refl; eq_refl; (apply hco; (repeat first | exact In.here | apply In.there | apply In.skip); exact hps); rintro _ _ ⟨rfl, rfl⟩)
 | (apply GC_seqK; intro K hK)
 | (apply hK; clear hK K)
 | (apply GC_region)
 | (apply GL_nil)
 | (apply thenG_normal)
 | (apply thenG_ret)
 | (apply GC_ret)
 | (apply GC_skip)
 | (apply GC_if_true; eq_refl)
 | (apply GC_if_false; eq_refl)
 | (apply retG2; eq_refl; eq_refl)
 | (apply GL_on; eq_refl; eq_refl)
 | (apply G_pv; eq_refl; first | exact trivial | omega)
 | (apply G_field; eq_refl)
 | (apply G_ld; eq_refl; (repeat first | exact In.here | apply In.there | apply In.skip); eq_refl)
 | (apply G_ldW; eq_refl; (repeat first | exact In.here | apply In.there | apply In.skip); eq_refl)
 | (apply G_cmpF; eq_refl; eq_refl; omega)
 | (apply G_len; eq_refl)
 | (apply G_box; eq_refl; eq_refl; intro _)
 | (apply GX_pure; apply build44_0_1_2 <;> eq_refl))
            exact ⟨[], (by repeat first | exact Wk.nil | exact Wk.refl | (apply Wk.cons; (focus ((repeat first | exact Rem.here | apply Rem.there | apply Rem.skip); done))) | apply Wk.nilv | apply Wk.last | apply Wk.drop), .inr ⟨by decide, rfl, rfl⟩⟩
          · have e0 := mtE_ok hz hl hr (by rw [hs, ha]; rfl)
            rw [ha] at hco
            rw [e0]
            obtain ⟨z0, z1⟩ := mul_le (by omega : 0 ≤ n) (by omega : n ≤ 600) m0 m1
            repeat' (first
 | (apply G_call; eq_refl; eq_refl; (apply hvr; (repeat first | exact In.here | apply In.there | apply In.skip)); rintro _ _ ⟨rfl, rfl⟩)
 | (apply G_call; eq_refl; eq_refl; (apply hrun; (repeat first | exact In.here | apply In.there | apply In.skip)); rintro _ _ ⟨ps, A9, k9, rfl, hps, rfl⟩)
 | (apply G_call; eq_refl; eq_refl; (apply hst; (repeat first | exact In.here | apply In.there | apply In.skip)); rintro _ _ ⟨rfl, rfl⟩)
 | (apply G_call; eq_refl; eq_refl; (apply hco; (repeat first | exact In.here | apply In.there | apply In.skip); exact hps); rintro _ _ ⟨rfl, rfl⟩)
 | (apply G_makeI booc; eq_refl; eq_refl; omega; eq_refl; omega; decide; intro b14)
 | (apply GC_seqK; intro K hK)
 | (apply hK; clear hK K)
 | (apply GC_block)
 | (apply GC_region)
 | (apply GL_nil)
 | (apply thenG_normal)
 | (apply GC_skip)
 | (apply GC_if_false; eq_refl)
 | (apply GL_on; eq_refl; eq_refl)
 | (apply G_pv; eq_refl; first | exact trivial | omega)
 | (apply G_field; eq_refl)
 | (apply G_ld; eq_refl; (repeat first | exact In.here | apply In.there | apply In.skip); eq_refl)
 | (apply G_ldW; eq_refl; (repeat first | exact In.here | apply In.there | apply In.skip); eq_refl)
 | (apply G_cmpF; eq_refl; eq_refl; omega)
 | (apply G_len; eq_refl)
 | (apply G_alloc; eq_refl; intro _)
 | (apply G_box; eq_refl; eq_refl; intro _)
 | (apply G_stW; (first | exact wr_p | kernel_rfl); eq_refl; eq_refl; eq_refl; eq_refl; (repeat first | exact Upd.here | apply Upd.there | apply Upd.skip); eq_refl)
 | (apply GX_pure; apply build44_0_1_2 <;> eq_refl)
 | (apply GX_pure; apply build69_0 <;> eq_refl))
            obtain ⟨q, rfl⟩ : ∃ q : Nat, n = (q : Int) := ⟨n.toNat, by omega⟩
            have hpl : ps.length = q := by rw [map_len hps, runM_len]; omega
            have hq : t.rows.length = q := by omega
            have hV : ∀ k : Nat, k < q → ∀ Γ, In Γ (.old w none_) → In Γ (.any (bun (runB ps A9 k9))) → ∀ w', Mem w' Γ → CVN Try.prog 42 [.agg (ccells c h).toArray, .slice (gt ps (k : Int)).1.1.1 (gt ps (k : Int)).2.state.length (gt ps (k : Int)).1.1.2, .slice (gt t.rows (k : Int)).1.1 (gt t.rows (k : Int)).2.length (gt t.rows (k : Int)).1.2] w' fun v N => ∃ A' k', v = .tuple #[.slice A' (vk c (strt t) k).length k', nu 0] ∧ N = [.vec booc 1 4 A' k' (vk c (strt t) k)] := fun k hk Γ hi hb w' M => by
              have g1 := gt_mem (l := ps) (i := (k : Int)) (by omega) (by omega)
              have g2 := gt_mem (l := t.rows) (i := (k : Int)) (by omega) (by omega)
              have := ValuesP_cv (k2 := (gt ps (k : Int)).1.1.2) (k3 := (gt t.rows (k : Int)).1.2) (H.chg (hi.old M)) ((MomsIn.bun hb M).st _ g1) ((HT.each _ g2).chg (hi.old M))
              have e1 : (gt ps (k : Int)).2.state = stM c (strt t) k := by rw [gt_run hps (by omega)]; rfl
              have e2 : stepE c (gt ps (k : Int)).2.state (gt t.rows (k : Int)).2 = 0 := stepE_ok he (by rw [e1]; exact stM_len F.init k) (F.rows _ g2)
              have e3 : valsM c (gt ps (k : Int)).2.state (gt t.rows (k : Int)).2 = vk c (strt t) k := by unfold valsM; rw [if_pos e2, e1]; rfl
              unfold ValsR at this
              rwa [e2, e3] at this
            have hat : ∀ (k i : Nat), (k : Int) < q → (i : Int) + 1 ≤ c.max → ∀ Γ, ∀ w', Mem w' Γ → CVN Try.prog 43 [.agg (ccells c h).toArray, nu (2 * ((i + 1 : Nat) : Int)), nu (k : Int)] w' fun v N => N = [] ∧ v = nu ((k : Int) * c.max + ((i : Int) + 1) + 1) := fun k i hk hi Γ w' M => by
              obtain ⟨z0, z1⟩ := mul_le (by omega : 0 ≤ (k : Int)) (by omega : (k : Int) ≤ 600) m0 m1
              have := at_cv (w := w') (h := h) (c := c) (l := 2 * ((i + 1 : Nat) : Int)) (t := (k : Int)) (by omega) (by omega) z0 z1
              have e : atM c.max (2 * ((i + 1 : Nat) : Int)) (k : Int) = (k : Int) * c.max + ((i : Int) + 1) + 1 := by
                unfold atM
                rw [if_neg (by omega), if_pos (by omega)]
                omega
              rwa [e] at this
            have hVl : ∀ k, (vk c (strt t) k).length = (c.max + 1).toNat := fun k => valM_len c _ _
            rename_i b3 b5 b13
            refine GC_loopK [3, 5, 13, 14, 64, 65] (fun s : Nat × List Bool => [(66, nu s.1)]) (fun s => [.vec booc 1 4 (some ⟨b14, 0, none⟩) (1 + (q : Int) * c.max).toNat s.2, .box b13 69 (ccells c h), .any (bun (runB ps A9 k9)), .box b5 44 (tcs t a b), .box b3 29 (ccells c h), .old w none_])
              (fun s => s.1 ≤ q ∧ PartM c (strt t) q s.1 0 s.2) (fun s => q - s.1) (0, List.replicate (1 + (q : Int) * c.max).toNat false) (by repeat first | exact Pick.nil | (apply Pick.cons; eq_refl)) (by repeat first | exact trivial | refine ⟨rfl, ?_⟩) (by repeat first | exact Wk.nil | exact Wk.refl | (apply Wk.cons; (focus ((repeat first | exact Rem.here | apply Rem.there | apply Rem.skip); done))) | apply Wk.nilv | apply Wk.last | apply Wk.drop) ⟨Nat.zero_le _, PartM.start (by omega)⟩ ?_
            rintro ⟨k, out⟩ ⟨hk, hP⟩
            dsimp only at hk hP ⊢
            have hol := hP.len
            rcases Nat.lt_or_ge k q with hlt | hge
            · have hv := hV k hlt
              have hvl := hVl k
              have hnw : ∀ i : Nat, (i : Int) + 1 ≤ c.max → 0 ≤ (k : Int) * c.max + ((i : Int) + 1) ∧ (k : Int) * c.max + ((i : Int) + 1) < 1 + (q : Int) * c.max := fun i hi => by
                have := row_lt hlt m0
                have := Int.mul_nonneg (by omega : 0 ≤ (k : Int)) m0
                omega
              have hst9 : ∀ i : Nat, ∀ o : List Bool, PartM c (strt t) q k i o → (i : Int) + 1 ≤ c.max → PartM c (strt t) q k (i + 1) (o.set ((k : Int) * c.max + ((i : Int) + 1)).toNat (gt (vk c (strt t) k) ((i + 1 : Nat) : Int))) := fun i o h9 hi => h9.set hlt hi
              have hat9 := hat k
              generalize (k : Int) * c.max = z at *
              repeat' (first
 | (apply G_rdW; eq_refl; (apply RdB.runs; (repeat first | exact In.here | apply In.there | apply In.skip)); infer_instance; (case ih => infer_instance); omega; omega)
 | (apply G_ix; eq_refl; eq_refl; (apply RdB.runs; (repeat first | exact In.here | apply In.there | apply In.skip)); (first | eq_refl | omega); omega; omega)
 | (apply G_call; eq_refl; eq_refl; (apply hv; (repeat first | exact In.here | apply In.there | apply In.skip); (repeat first | exact In.here | apply In.there | apply In.skip)); rintro _ _ ⟨A17, k17, rfl, rfl⟩)
 | (apply GC_seqK; intro K hK)
 | (apply hK; clear hK K)
 | (apply GC_block)
 | (apply GC_region)
 | (apply GL_nil)
 | (apply thenG_normal)
 | (apply GC_skip)
 | (apply GC_if_true; eq_refl)
 | (apply GC_if_false; eq_refl)
 | (apply GL_on; eq_refl; eq_refl)
 | (refine GC_draws (id := 17) [.q 0, .q 1, .q 2, .q 3, .q 4, .q 5, .q 6, .q 7, .c 8, .q 9, .q 10, .q 11, .q 12, .q 13] mixed (by kernel_rfl) (by kernel_rfl) ?_)
 | (apply GS_nil)
 | (apply GS_qon; eq_refl; eq_refl; eq_refl; eq_refl)
 | (apply GS_con; eq_refl; eq_refl; eq_refl; eq_refl)
 | (apply G_pv; eq_refl; first | exact trivial | omega)
 | (apply G_field; eq_refl)
 | (apply G_ld; eq_refl; (repeat first | exact In.here | apply In.there | apply In.skip); eq_refl)
 | (apply G_ldW; eq_refl; (repeat first | exact In.here | apply In.there | apply In.skip); eq_refl)
 | (apply G_rd; eq_refl; (first | (apply Rd.own; (repeat first | exact In.here | apply In.there | apply In.skip); infer_instance) | (apply Rd.old; (repeat first | exact In.here | apply In.there | apply In.skip); assumption) | (apply Rd.oldR; (repeat first | exact In.here | apply In.there | apply In.skip); assumption) | exact Rd.nil | assumption); (case ih => infer_instance); omega; omega; eq_refl)
 | (apply G_cmpT; eq_refl; eq_refl; omega)
 | (apply G_cmpF; eq_refl; eq_refl; omega)
 | (apply G_ix; eq_refl; eq_refl; (first | (apply Rd.own; (repeat first | exact In.here | apply In.there | apply In.skip); infer_instance) | (apply Rd.old; (repeat first | exact In.here | apply In.there | apply In.skip); assumption) | (apply Rd.oldR; (repeat first | exact In.here | apply In.there | apply In.skip); assumption) | exact Rd.nil | assumption); (first | eq_refl | omega); omega; omega)
 | (apply G_alloc; eq_refl; intro _)
 | (apply G_stW; (first | exact wr_p | kernel_rfl); eq_refl; eq_refl; eq_refl; eq_refl; (repeat first | exact Upd.here | apply Upd.there | apply Upd.skip); eq_refl))
              refine GC_loopK [3, 5, 13, 14, 15, 17, 64, 65, 66] (fun s : Nat × List Bool => [(19, nu ((s.1 + 1 : Nat) : Int))]) (fun s => [.vec booc 1 4 (some ⟨b14, 0, none⟩) (1 + (q : Int) * c.max).toNat s.2, .vec booc 1 4 A17 k17 (vk c (strt t) k), .box b13 69 (ccells c h), .any (bun (runB ps A9 k9)), .box b5 44 (tcs t a b), .box b3 29 (ccells c h), .old w none_])
                (fun s => (s.1 : Int) ≤ c.max ∧ PartM c (strt t) q k s.1 s.2) (fun s => c.max.toNat - s.1) (0, out) (by repeat first | exact Pick.nil | (apply Pick.cons; eq_refl)) (by repeat first | exact trivial | refine ⟨rfl, ?_⟩) (by repeat first | exact Wk.nil | exact Wk.refl | (apply Wk.cons; (focus ((repeat first | exact Rem.here | apply Rem.there | apply Rem.skip); done))) | apply Wk.nilv | apply Wk.last | apply Wk.drop) ⟨by dsimp only; omega, hP⟩ ?_
              rintro ⟨i, o⟩ ⟨hi, hO⟩
              dsimp only at hi hO ⊢
              have hol2 := hO.len
              rcases Int.lt_or_le (i : Int) c.max with hlt2 | hge2
              · have h9 := hst9 i o hO (by omega)
                have ha := hat9 i (by omega) (by omega)
                have hw9 := hnw i (by omega)
                repeat' (first
 | (apply G_call; eq_refl; eq_refl; (apply ha); rintro _ _ ⟨rfl, rfl⟩)
 | (apply GC_seqK; intro K hK)
 | (apply hK; clear hK K)
 | (apply GC_block)
 | (apply GC_region)
 | (apply GL_nil)
 | (apply thenG_normal)
 | (apply blockG_normal)
 | (apply GC_skip)
 | (apply GC_if_true; eq_refl)
 | (apply GL_on; eq_refl; eq_refl)
 | (refine GC_draws (id := 23) [.q 0, .q 1, .q 2, .q 3, .q 4, .q 7, .q 8, .q 9, .q 10, .c 5, .q 6, .q 11, .c 12] mixed (by kernel_rfl) (by kernel_rfl) ?_)
 | (apply GS_nil)
 | (apply GS_qon; eq_refl; eq_refl; eq_refl; eq_refl)
 | (apply GS_con; eq_refl; eq_refl; eq_refl; eq_refl)
 | (apply G_pv; eq_refl; first | exact trivial | omega)
 | (apply G_field; eq_refl)
 | (apply G_ld; eq_refl; (repeat first | exact In.here | apply In.there | apply In.skip); eq_refl)
 | (apply G_ldW; eq_refl; (repeat first | exact In.here | apply In.there | apply In.skip); eq_refl)
 | (apply G_rd; eq_refl; (first | (apply Rd.own; (repeat first | exact In.here | apply In.there | apply In.skip); infer_instance) | (apply Rd.old; (repeat first | exact In.here | apply In.there | apply In.skip); assumption) | (apply Rd.oldR; (repeat first | exact In.here | apply In.there | apply In.skip); assumption) | exact Rd.nil | assumption); (case ih => infer_instance); omega; omega; eq_refl)
 | (apply G_cmpT; eq_refl; eq_refl; omega)
 | (apply G_ix; eq_refl; eq_refl; (first | (apply Rd.own; (repeat first | exact In.here | apply In.there | apply In.skip); infer_instance) | (apply Rd.old; (repeat first | exact In.here | apply In.there | apply In.skip); assumption) | (apply Rd.oldR; (repeat first | exact In.here | apply In.there | apply In.skip); assumption) | exact Rd.nil | assumption); (first | eq_refl | omega); omega; omega)
 | (apply G_stV; (first | exact wr_p | kernel_rfl); eq_refl; eq_refl; eq_refl; eq_refl; (repeat first | exact Upd.here | apply Upd.there | apply Upd.skip); infer_instance; infer_instance; eq_refl; omega; (try simp only [List.length_set, List.length_append, List.length_replicate]); omega))
                refine ⟨(i + 1, o.set (z + ((i : Int) + 1) + 1 - 1).toNat (gt (vk c (strt t) k) ((i + 1 : Nat) : Int))), (by repeat first | exact trivial | refine ⟨rfl, ?_⟩), (by repeat first | exact Wk.nil | exact Wk.refl | (apply Wk.cons; (focus ((repeat first | exact Rem.here | apply Rem.there | apply Rem.skip); done))) | apply Wk.nilv | apply Wk.last | apply Wk.drop), ⟨by dsimp only; omega, ?_⟩, by dsimp only; omega⟩
                dsimp only
                rw [show z + ((i : Int) + 1) + 1 - 1 = z + ((i : Int) + 1) by omega]
                exact h9
              · repeat' (first
 | (apply GC_seqK; intro K hK)
 | (apply hK; clear hK K)
 | (clear hK K; apply hK; clear hK K)
 | (apply GC_region)
 | (apply GL_nil)
 | (apply thenG_normal)
 | (apply thenG_exit)
 | (apply blockG_hit)
 | (apply blockG_normal)
 | (apply GC_exit)
 | (apply GC_if_false; eq_refl)
 | (apply GL_on; eq_refl; eq_refl)
 | (apply G_pv; eq_refl; first | exact trivial | omega)
 | (apply G_field; eq_refl)
 | (apply G_ld; eq_refl; (repeat first | exact In.here | apply In.there | apply In.skip); eq_refl)
 | (apply G_cmpF; eq_refl; eq_refl; omega))
                exact ⟨(k + 1, o), (by repeat first | exact trivial | refine ⟨rfl, ?_⟩), (by repeat first | exact Wk.nil | exact Wk.refl | (apply Wk.cons; (focus ((repeat first | exact Rem.here | apply Rem.there | apply Rem.skip); done))) | apply Wk.nilv | apply Wk.last | apply Wk.drop), ⟨hlt, hO.next (by omega)⟩, by dsimp only; omega⟩
            · obtain rfl : k = q := by omega
              repeat' (first
 | (apply GC_seqK; intro K hK)
 | (apply hK; clear hK K)
 | (clear hK K; apply hK; clear hK K)
 | (apply GC_region)
 | (apply GL_nil)
 | (apply thenG_normal)
 | (apply thenG_exit)
 | (apply blockG_hit)
 | (apply GC_ret)
 | (apply GC_exit)
 | (apply GC_if_false; eq_refl)
 | (apply retG2; eq_refl; eq_refl)
 | (apply GL_on; eq_refl; eq_refl)
 | (apply G_pv; eq_refl; first | exact trivial | omega)
 | (apply G_cmpF; eq_refl; eq_refl; omega))
              exact ⟨[.vec booc 1 4 (some ⟨b14, 0, none⟩) (1 + (k : Int) * c.max).toNat out], (by repeat first | exact Wk.nil | exact Wk.refl | (apply Wk.cons; (focus ((repeat first | exact Rem.here | apply Rem.there | apply Rem.skip); done))) | apply Wk.nilv | apply Wk.last | apply Wk.drop), .inl ⟨rfl, out, _, _, by rw [show out.length = (1 + (k : Int) * c.max).toNat by omega], hP.done, rfl⟩⟩
      · have e0 := mtE_run hz hl hr
        rw [e0]
        generalize runE c (strt t) = ε at *
        repeat' (first
 | (apply G_call; eq_refl; eq_refl; (apply hvr; (repeat first | exact In.here | apply In.there | apply In.skip)); rintro _ _ ⟨rfl, rfl⟩)
 | (apply G_call; eq_refl; eq_refl; (apply hrun; (repeat first | exact In.here | apply In.there | apply In.skip)); rintro _ _ ⟨ps, A9, k9, rfl, hps, rfl⟩)
 | (apply GC_seqK; intro K hK)
 | (apply hK; clear hK K)
 | (apply GC_region)
 | (apply GL_nil)
 | (apply thenG_normal)
 | (apply thenG_ret)
 | (apply GC_ret)
 | (apply GC_skip)
 | (apply GC_if_true; eq_refl)
 | (apply GC_if_false; eq_refl)
 | (apply retG2; eq_refl; eq_refl)
 | (apply GL_on; eq_refl; eq_refl)
 | (apply G_pv; eq_refl; first | exact trivial | omega)
 | (apply G_field; eq_refl)
 | (apply G_ld; eq_refl; (repeat first | exact In.here | apply In.there | apply In.skip); eq_refl)
 | (apply G_ldW; eq_refl; (repeat first | exact In.here | apply In.there | apply In.skip); eq_refl)
 | (apply G_cmpT; eq_refl; eq_refl; omega)
 | (apply G_cmpF; eq_refl; eq_refl; omega)
 | (apply G_len; eq_refl)
 | (apply G_box; eq_refl; eq_refl; intro _)
 | (apply GX_pure; apply build44_0_1_2 <;> eq_refl))
        exact ⟨[], (by repeat first | exact Wk.nil | exact Wk.refl | (apply Wk.cons; (focus ((repeat first | exact Rem.here | apply Rem.there | apply Rem.skip); done))) | apply Wk.nilv | apply Wk.last | apply Wk.drop), .inr ⟨hr, rfl, rfl⟩⟩
    · have e0 := mtE_len hz hl
      rw [e0]
      repeat' (first
 | (apply G_call; eq_refl; eq_refl; (apply hvr; (repeat first | exact In.here | apply In.there | apply In.skip)); rintro _ _ ⟨rfl, rfl⟩)
 | (apply GC_seqK; intro K hK)
 | (apply hK; clear hK K)
 | (apply GC_region)
 | (apply GL_nil)
 | (apply thenG_normal)
 | (apply thenG_ret)
 | (apply GC_ret)
 | (apply GC_skip)
 | (apply GC_if_true; eq_refl)
 | (apply GC_if_false; eq_refl)
 | (apply retG2; eq_refl; eq_refl)
 | (apply GL_on; eq_refl; eq_refl)
 | (apply G_pv; eq_refl; first | exact trivial | omega)
 | (apply G_field; eq_refl)
 | (apply G_ld; eq_refl; (repeat first | exact In.here | apply In.there | apply In.skip); eq_refl)
 | (apply G_ldW; eq_refl; (repeat first | exact In.here | apply In.there | apply In.skip); eq_refl)
 | (apply G_cmpT; eq_refl; eq_refl; omega)
 | (apply G_cmpF; eq_refl; eq_refl; omega)
 | (apply G_len; eq_refl)
 | (apply G_box; eq_refl; eq_refl; intro _))
      exact ⟨[], (by repeat first | exact Wk.nil | exact Wk.refl | (apply Wk.cons; (focus ((repeat first | exact Rem.here | apply Rem.there | apply Rem.skip); done))) | apply Wk.nilv | apply Wk.last | apply Wk.drop), .inr ⟨by decide, rfl, rfl⟩⟩
  · have e0 := mtE_vr (t := t) hz
    rw [e0]
    rw [vrM_no hz] at hvr
    generalize vrE c n = ε at *
    repeat' (first
 | (apply G_call; eq_refl; eq_refl; (apply hvr; (repeat first | exact In.here | apply In.there | apply In.skip)); rintro _ _ ⟨rfl, rfl⟩)
 | (apply GC_seqK; intro K hK)
 | (apply hK; clear hK K)
 | (apply GC_region)
 | (apply GL_nil)
 | (apply thenG_normal)
 | (apply thenG_ret)
 | (apply GC_ret)
 | (apply GC_if_true; eq_refl)
 | (apply retG2; eq_refl; eq_refl)
 | (apply GL_on; eq_refl; eq_refl)
 | (apply G_pv; eq_refl; first | exact trivial | omega)
 | (apply G_ldW; eq_refl; (repeat first | exact In.here | apply In.there | apply In.skip); eq_refl)
 | (apply G_cmpT; eq_refl; eq_refl; omega)
 | (apply G_box; eq_refl; eq_refl; intro _))
    exact ⟨[], (by repeat first | exact Wk.nil | exact Wk.refl | (apply Wk.cons; (focus ((repeat first | exact Rem.here | apply Rem.there | apply Rem.skip); done))) | apply Wk.nilv | apply Wk.last | apply Wk.drop), .inr ⟨hz, rfl, rfl⟩⟩
end SC
end Go.Proofs.Ytbmngkdnebklpaa
end
section
/- FramesHolds, FramesOnly: the plain law. -/
set_option linter.unusedVariables false
set_option linter.unusedSimpArgs false
namespace Go.Proofs.Ytbmngkdnebklpaa
namespace SC
open Go.Proofs
/-- Is a trace a run? -/
noncomputable def runT (c : Circ) (t : Trc) : Bool := decide (startE c t.init = 0) && decide (runE c t = 0) && startB c t.init && allH c t t.rows.length
theorem start_of {c : Circ} {t : Trc} (h : runE c t = 0) : startE c t.init = 0 ∧ startB c t.init = startsM c t.init c.latches.length := by
  obtain ⟨he, F⟩ := runE_zero h
  have e : startE c t.init = 0 := by unfold startE; rw [if_neg (by omega), if_neg (by have := F.init; omega)]
  exact ⟨e, if_pos e⟩
theorem runT_run {c : Circ} {t : Trc} (h : runE c t ≠ 0) : runT c t = false := by unfold runT; rw [decide_eq_false h]; simp
theorem runT_of {c : Circ} {t : Trc} (h : runE c t = 0) : runT c t = (startsM c t.init c.latches.length && allH c t t.rows.length) := by
  obtain ⟨e1, e2⟩ := start_of h
  unfold runT
  rw [decide_eq_true h, decide_eq_true e1, e2]
  rfl
theorem mt_6 {c : Circ} {n : Int} (h : vrE c n = 0) (h2 : rnE c n ≠ 0) : rnE c n = 6 := by
  by_cases hs : 524288 < rnN c n
  · exact rnE_sz h hs
  · exact absurd (rnE_ok h hs) h2
section
variable {c : Circ} {t : Trc} {n : Nat} {out md : List Bool}
theorem allH_iff : allH c t n = true ↔ ∀ k < n, c.constraints.all (lv (vk c t k)) = true := by
  unfold allH
  rw [List.all_eq_true]
  exact ⟨fun h k hk => h k (List.mem_range.2 hk), fun h k hk => h k (List.mem_range.1 hk)⟩
/-! ### any model -/
/-- The trace of a model. -/
structure OfM (c : Circ) (md : List Bool) (n : Nat) (t : Trc) : Prop where
  init : t.init = trI c md
  rows : t.rows.map (·.2) = trR c md n
  loop : t.loop = -1
theorem OfM.len (h : OfM c md n t) : t.rows.length = n := by rw [map_len h.rows]; unfold trR; simp
theorem OfM.row (h : OfM c md n t) {k : Nat} (hk : k < n) : (gt t.rows (k : Int)).2 = trW c md k := by
  have hl := h.len
  have h1 : (t.rows.map (·.2))[k]? = (trR c md n)[k]? := by rw [h.rows]
  unfold trR at h1
  rw [List.getElem?_map, List.getElem?_map, List.getElem?_eq_getElem (by omega), List.getElem?_range hk] at h1
  rw [gt_nat (by omega)]
  exact Option.some.inj h1
theorem OfM.fit (h : OfM c md n t) (h1 : 1 ≤ n) (h2 : n ≤ 512) : Fit c t := by
  have hl := h.len
  refine ⟨by rw [h.init]; unfold trI; simp, by omega, by omega, by rw [h.loop]; omega, by rw [h.loop]; omega, fun p hp => ?_⟩
  have : p.2 ∈ trR c md n := by rw [← h.rows]; exact List.mem_map.2 ⟨p, hp, rfl⟩
  unfold trR at this
  obtain ⟨k, _, e⟩ := List.mem_map.1 this
  rw [← e]
  unfold trW
  rw [List.length_map]
theorem OfM.strt (h : OfM c md n t) : strt t = t := by
  obtain ⟨a, b, l⟩ := t
  have := h.loop
  dsimp only at this
  subst this
  rfl
/-- What the program compares. -/
def agA (c : Circ) (out md : List Bool) (k i : Nat) : Bool := (List.range i).all fun j => gt (cut c.max out k) ((gt c.ands (j : Int)).1 / 2) == gt (cut c.max md k) ((gt c.ands (j : Int)).1 / 2)
def agL (c : Circ) (out md : List Bool) (k i : Nat) : Bool := (List.range i).all fun j => gt (cut c.max out k) ((gt c.latches (j : Int)).1 / 2) == gt (cut c.max md k) ((gt c.latches (j : Int)).1 / 2)
def agK (c : Circ) (out md : List Bool) (n : Nat) : Bool := (List.range n).all fun k => agA c out md k c.ands.length && agL c out md k c.latches.length
theorem all_succ (p : Nat → Bool) (n : Nat) : (List.range (n + 1)).all p = ((List.range n).all p && p n) := by rw [List.range_succ, List.all_append]; simp
theorem agA_succ (k i : Nat) : agA c out md k (i + 1) = (agA c out md k i && (gt (cut c.max out k) ((gt c.ands (i : Int)).1 / 2) == gt (cut c.max md k) ((gt c.ands (i : Int)).1 / 2))) := all_succ _ i
theorem agL_succ (k i : Nat) : agL c out md k (i + 1) = (agL c out md k i && (gt (cut c.max out k) ((gt c.latches (i : Int)).1 / 2) == gt (cut c.max md k) ((gt c.latches (i : Int)).1 / 2))) := all_succ _ i
theorem agK_succ (k : Nat) : agK c out md (k + 1) = (agK c out md k && (agA c out md k c.ands.length && agL c out md k c.latches.length)) := all_succ _ k
theorem all_iff {p : Nat → Bool} {n : Nat} : (List.range n).all p = true ↔ ∀ k < n, p k = true := by
  rw [List.all_eq_true]
  exact ⟨fun h k hk => h k (List.mem_range.2 hk), fun h k hk => h k (List.mem_range.1 hk)⟩
theorem OfM.film (R : Right c) (h : OfM c md (n + 1) t) (hl : md.length = 1 + (n + 1) * c.max.toNat) : cnfT md (runS c n) = true ↔ gt md 0 = false ∧ startsM c t.init c.latches.length = true ∧ (∀ k ≤ n, c.constraints.all (lv (vk c t k)) = true) ∧ ∀ k ≤ n, (∀ i : Nat, i < c.ands.length → gt (vk c t k) ((gt c.ands (i : Int)).1 / 2) = gt (cut c.max md k) ((gt c.ands (i : Int)).1 / 2)) ∧ ∀ i : Nat, i < c.latches.length → gt (vk c t k) ((gt c.latches (i : Int)).1 / 2) = gt (cut c.max md k) ((gt c.latches (i : Int)).1 / 2) := by
  refine film_only R (t := t) hl (fun k hk i hi => ?_) fun i hi => ?_
  · rw [h.row (by omega)]
    unfold trW
    rw [gt_nat (by rw [List.length_map]; exact hi), List.getElem_map, gt_nat hi]
  · rw [h.init]
    unfold trI
    rw [gt_nat (by rw [List.length_map]; exact hi), List.getElem_map, gt_nat hi]
theorem only_no (R : Right c) (h : OfM c md (n + 1) t) (hl : md.length = 1 + (n + 1) * c.max.toNat) (hx : (startsM c t.init c.latches.length && allH c t (n + 1)) = false) : cnfT md (runS c n) = false := by
  cases hc : cnfT md (runS c n)
  · rfl
  · obtain ⟨_, h2, h3, _⟩ := (h.film R hl).1 hc
    rw [h2, allH_iff.2 fun k hk => h3 k (by omega)] at hx
    cases hx
theorem only_ok (R : Right c) (h : OfM c md (n + 1) t) (hl : md.length = 1 + (n + 1) * c.max.toNat) (G : GoodM c t (n + 1) out) (hs : startsM c t.init c.latches.length = true) (hh : allH c t (n + 1) = true) : cnfT md (runS c n) = (!gt md 0 && agK c out md (n + 1)) := by
  rw [Bool.eq_iff_iff, h.film R hl, Bool.and_eq_true]
  unfold agK agA agL
  rw [all_iff]
  simp only [Bool.and_eq_true, all_iff, beq_iff_eq]
  constructor
  · rintro ⟨h1, _, _, h4⟩
    refine ⟨by rw [h1]; rfl, fun k hk => ?_⟩
    rw [G.cut R hk]
    exact h4 k (by omega)
  · rintro ⟨h1, h4⟩
    refine ⟨by simpa using h1, hs, fun k hk => allH_iff.1 hh k (by omega), fun k hk => ?_⟩
    have := h4 k (by omega)
    rwa [G.cut R (by omega)] at this
end
/-! ### the literals of the formula -/
theorem at_ok {c : Circ} {k n : Nat} {l : Int} (h0 : 0 ≤ l) (h1 : l ≤ 2 * c.max + 1) (hk : k < n) (m0 : 0 ≤ c.max) : (atM c.max l (k : Int) ≠ 0 ∧ -(1 + (n : Int) * c.max) ≤ atM c.max l (k : Int) ∧ atM c.max l (k : Int) ≤ 1 + (n : Int) * c.max) ∧ (-atM c.max l (k : Int) ≠ 0 ∧ -(1 + (n : Int) * c.max) ≤ -atM c.max l (k : Int) ∧ -atM c.max l (k : Int) ≤ 1 + (n : Int) * c.max) := by
  have z1 := row_lt hk m0
  have z0 : 0 ≤ (k : Int) * c.max := Int.mul_nonneg (by omega) m0
  unfold atM
  split <;> split <;> omega
theorem runS_ok {c : Circ} (R : Right c) : ∀ n N : Nat, n < N → ∀ l ∈ runS c n, LitsOk (1 + (N : Int) * c.max) l := by
  have m0 := R.m0
  have step : ∀ k N : Nat, k < N → ∀ l ∈ stepS c (k : Int), LitsOk (1 + (N : Int) * c.max) l := fun k N hk l hl => by
    unfold stepS at hl
    rcases List.mem_append.1 hl with hl | hl
    · unfold gatesS at hl
      obtain ⟨x, hx, hl⟩ := List.mem_flatMap.1 hl
      obtain ⟨g1, g2, g3⟩ := R.gate hx
      have g1 := g1.in
      unfold inR at g1 g2 g3
      obtain ⟨a1, a2⟩ := at_ok (c := c) g1.1 g1.2 hk m0
      obtain ⟨b1, b2⟩ := at_ok (c := c) g2.1 g2.2 hk m0
      obtain ⟨c1, c2⟩ := at_ok (c := c) g3.1 g3.2 hk m0
      unfold gateS at hl
      simp only [List.mem_cons, List.not_mem_nil, or_false] at hl
      rcases hl with rfl | rfl | rfl <;> refine ⟨Nat.le_of_ble_eq_true rfl, fun x hx => ?_⟩ <;> simp only [List.mem_cons, List.not_mem_nil, or_false] at hx
      · rcases hx with rfl | rfl <;> assumption
      · rcases hx with rfl | rfl <;> assumption
      · rcases hx with rfl | rfl | rfl <;> assumption
    · unfold consS at hl
      obtain ⟨x, hx, rfl⟩ := List.mem_map.1 hl
      have g := R.con hx
      unfold inR at g
      obtain ⟨a1, _⟩ := at_ok (c := c) g.1 g.2 hk m0
      refine ⟨Nat.le_of_ble_eq_true rfl, fun x hx => ?_⟩
      simp only [List.mem_cons, List.not_mem_nil, or_false] at hx
      subst hx
      exact a1
  have next : ∀ k N : Nat, k + 1 < N → ∀ l ∈ nextS c (k : Int), LitsOk (1 + (N : Int) * c.max) l := fun k N hk l hl => by
    unfold nextS at hl
    obtain ⟨x, hx, hl⟩ := List.mem_flatMap.1 hl
    obtain ⟨g1, g2, _⟩ := R.lat hx
    have g1 := g1.in
    unfold inR at g1 g2
    obtain ⟨a1, a2⟩ := at_ok (c := c) g1.1 g1.2 hk m0
    obtain ⟨b1, b2⟩ := at_ok (c := c) (k := k) g2.1 g2.2 (by omega : k < N) m0
    rw [show ((k + 1 : Nat) : Int) = (k : Int) + 1 by omega] at a1 a2
    unfold nxtS at hl
    simp only [List.mem_cons, List.not_mem_nil, or_false] at hl
    rcases hl with rfl | rfl <;> refine ⟨Nat.le_of_ble_eq_true rfl, fun x hx => ?_⟩ <;> simp only [List.mem_cons, List.not_mem_nil, or_false] at hx
    · rcases hx with rfl | rfl <;> assumption
    · rcases hx with rfl | rfl <;> assumption
  have first : ∀ N : Nat, 0 < N → ∀ l ∈ firstS c, LitsOk (1 + (N : Int) * c.max) l := fun N hk l hl => by
    unfold firstS at hl
    obtain ⟨x, hx, hl⟩ := List.mem_flatMap.1 hl
    obtain ⟨g1, _, _⟩ := R.lat hx
    have g1 := g1.in
    unfold inR at g1
    obtain ⟨a1, a2⟩ := at_ok (c := c) g1.1 g1.2 hk m0
    rw [show ((0 : Nat) : Int) = 0 by omega] at a1 a2
    unfold rstS at hl
    split at hl
    · simp only [List.mem_cons, List.not_mem_nil, or_false] at hl
      subst hl
      refine ⟨Nat.le_of_ble_eq_true rfl, fun x hx => ?_⟩
      simp only [List.mem_cons, List.not_mem_nil, or_false] at hx
      subst hx
      assumption
    · split at hl
      · simp only [List.mem_cons, List.not_mem_nil, or_false] at hl
        subst hl
        refine ⟨Nat.le_of_ble_eq_true rfl, fun x hx => ?_⟩
        simp only [List.mem_cons, List.not_mem_nil, or_false] at hx
        subst hx
        assumption
      · cases hl
  intro n
  induction n with
  | zero =>
    intro N hN l hl
    have hl : l ∈ [[-1]] ++ firstS c ++ stepS c 0 := hl
    rcases List.mem_append.1 hl with hl | hl
    · rcases List.mem_append.1 hl with hl | hl
      · simp only [List.mem_cons, List.not_mem_nil, or_false] at hl
        subst hl
        refine ⟨Nat.le_of_ble_eq_true rfl, fun x hx => ?_⟩
        simp only [List.mem_cons, List.not_mem_nil, or_false] at hx
        subst hx
        have : 0 ≤ (N : Int) * c.max := Int.mul_nonneg (by omega) m0
        omega
      · exact first N hN l hl
    · exact step 0 N hN l hl
  | succ n ih =>
    intro N hN l hl
    have hl : l ∈ runS c n ++ nextS c (n : Int) ++ stepS c ((n : Int) + 1) := hl
    rcases List.mem_append.1 hl with hl | hl
    · rcases List.mem_append.1 hl with hl | hl
      · exact ih N (by omega) l hl
      · exact next n N hN l hl
    · rw [show (n : Int) + 1 = ((n + 1 : Nat) : Int) by omega] at hl
      exact step (n + 1) N hN l hl
end SC
end Go.Proofs.Ytbmngkdnebklpaa
end
section
/- trestlelaw16: run; cnf.Holds of the formula. -/
set_option linter.unusedVariables false
set_option linter.unusedSimpArgs false
namespace Go.Proofs.Ytbmngkdnebklpaa
namespace SC
open Go.Proofs
/-- cnf.Holds of the formula of some steps. -/
theorem holdsF {Γ : Mm} {w : World} {c : Circ} {n : Int} (R : Right c) (hz : rnE c n = 0) {V : Int} {md : List Bool} {A D : Option Addr} {k kd : Nat} {ps : List (Hdl × List Int)} (hV : V = 1 + n * c.max) (hmd : (md.length : Int) = 1 + n * c.max) (h1 : In Γ (.any (bun (cnB ps A k)))) (hD : RowA w booc 1 D md) (e1 : ps.map (·.2) = rnL c n) (M : Mem w Γ) :
    CVN Try.prog 16 [.agg #[nu V, .slice A ps.length k], .slice D md.length kd] w fun v N => N = [] ∧ ∃ i : Int, v = .tuple #[.bool (cnfT md (rnL c n)), nu i, nu 0] := by
  have hl := map_len e1
  have hn := rnL_len hz
  have hx := (rnE_zero hz).2
  obtain ⟨_, n1, n2, n3⟩ := vrE_zero (rnE_zero hz).1
  have m0 := R.m0
  have e2 : V = ((md.length : Nat) : Int) := by omega
  have := holdsP_cv (k := k) (kd := kd) (CnfAt.bun h1 M) hD (by omega) (by omega) fun q hq => by
    have h9 : q.2 ∈ rnL c n := by rw [← e1]; exact List.mem_map.2 ⟨q, hq, rfl⟩
    rw [rnL_ok hz] at h9
    have h8 := runS_ok R (n - 1).toNat n.toNat (by omega) q.2 h9
    rwa [show ((n.toNat : Nat) : Int) = n by omega, ← hmd] at h8
  rw [e1] at this
  rw [e2]
  exact this
attribute [local irreducible] WC WL WX WS WO OX Does DoesU Enters CV Pure thenQ blockQ retQ Wants retQC GC GL GS GX RdB thenG blockG retG Rd At gt CVN CVM
attribute [local irreducible] bun
set_option maxRecDepth 100000
set_option maxHeartbeats 800000 in
theorem run16_cv {w : World} {c : Circ} {h js : Hd} {t : Trc} {a b : Hdl} (H : CirIn w c h js) (HT : TrcIn w t a b) :
    CVN Try.prog 15 [.agg (ccells c h).toArray, .agg (tcs t a b).toArray] w fun v N => N = [] ∧ v = .bool (runT c t) := by
  have hst : ∀ Γ, In Γ (.old w none_) → ∀ w', Mem w' Γ → CVN Try.prog 39 [.agg (ccells c h).toArray, .slice a.1 t.init.length a.2] w' _ := fun Γ hi w' M => StartsP_cv (k2 := a.2) (H.chg (hi.old M)) (HT.init.chg (hi.old M))
  have hrun : ∀ Γ, In Γ (.old w none_) → ∀ w', Mem w' Γ → CVN Try.prog 38 [.agg (ccells c h).toArray, .agg (tcs t a b).toArray] w' (RunB (runE c t) (runsM c t)) := fun Γ hi w' M => RunB.to (RunR.to (Run_cv (t := t) (H.chg (hi.old M)) (HT.chg (hi.old M))) rfl rfl)
  have hlr := HT.lr
  refine CVN.enter 44 [4] Try.func15 rfl rfl rfl (by decide) rfl ?_
  by_cases hr : runE c t = 0
  · obtain ⟨e1, e2⟩ := start_of hr
    have F := (runE_zero hr).2
    have hrs : runsM c t = runM c t t.rows.length := if_pos hr
    rw [runT_of hr]
    rw [e1, e2] at hst
    rw [hr, hrs] at hrun
    cases hs : startsM c t.init c.latches.length
    · rw [hs] at hst
      repeat' (first
 | (apply G_call; eq_refl; eq_refl; (apply hst; (repeat first | exact In.here | apply In.there | apply In.skip)); rintro _ _ ⟨rfl, rfl⟩)
 | (apply G_call; eq_refl; eq_refl; (apply hrun; (repeat first | exact In.here | apply In.there | apply In.skip)); rintro _ _ ⟨ps, A9, k9, rfl, hps, rfl⟩)
 | (apply GC_seqK; intro K hK)
 | (apply hK; clear hK K)
 | (apply GC_region)
 | (apply GL_nil)
 | (apply thenG_normal)
 | (apply thenG_ret)
 | (apply GC_ret)
 | (apply GC_if_true; eq_refl)
 | (apply retG1; eq_refl)
 | (apply GL_on; eq_refl; eq_refl)
 | (apply G_pv; eq_refl; first | exact trivial | omega)
 | (apply G_field; eq_refl)
 | (apply G_ld; eq_refl; (repeat first | exact In.here | apply In.there | apply In.skip); eq_refl)
 | (apply G_ldW; eq_refl; (repeat first | exact In.here | apply In.there | apply In.skip); eq_refl)
 | (apply G_cmpF; eq_refl; eq_refl; omega)
 | (apply G_box; eq_refl; eq_refl; intro _))
      exact ⟨[], (by repeat first | exact Wk.nil | exact Wk.refl | (apply Wk.cons; (focus ((repeat first | exact Rem.here | apply Rem.there | apply Rem.skip); done))) | apply Wk.nilv | apply Wk.last | apply Wk.drop), rfl, rfl⟩
    · rw [hs] at hst
      repeat' (first
 | (apply G_call; eq_refl; eq_refl; (apply hst; (repeat first | exact In.here | apply In.there | apply In.skip)); rintro _ _ ⟨rfl, rfl⟩)
 | (apply G_call; eq_refl; eq_refl; (apply hrun; (repeat first | exact In.here | apply In.there | apply In.skip)); rintro _ _ ⟨ps, A9, k9, rfl, hps, rfl⟩)
 | (apply GC_seqK; intro K hK)
 | (apply hK; clear hK K)
 | (apply GC_block)
 | (apply GC_region)
 | (apply GL_nil)
 | (apply thenG_normal)
 | (apply GC_skip)
 | (apply GC_if_false; eq_refl)
 | (apply GL_on; eq_refl; eq_refl)
 | (apply G_pv; eq_refl; first | exact trivial | omega)
 | (apply G_field; eq_refl)
 | (apply G_ld; eq_refl; (repeat first | exact In.here | apply In.there | apply In.skip); eq_refl)
 | (apply G_ldW; eq_refl; (repeat first | exact In.here | apply In.there | apply In.skip); eq_refl)
 | (apply G_cmpF; eq_refl; eq_refl; omega)
 | (apply G_len; eq_refl)
 | (apply G_box; eq_refl; eq_refl; intro _))
      have hpl : ps.length = t.rows.length := by rw [map_len hps, runM_len]
      refine GC_loopK [34, 35] (fun i : Nat => [(36, nu i)]) (fun _ => [.any (bun (runB ps A9 k9)), .old w none_]) (fun i => i ≤ t.rows.length ∧ allH c t i = true) (fun i => t.rows.length - i) 0 (by repeat first | exact Pick.nil | (apply Pick.cons; eq_refl)) (by repeat first | exact trivial | refine ⟨rfl, ?_⟩) (by repeat first | exact Wk.nil | exact Wk.refl | (apply Wk.cons; (focus ((repeat first | exact Rem.here | apply Rem.there | apply Rem.skip); done))) | apply Wk.nilv | apply Wk.last | apply Wk.drop) ⟨Nat.zero_le _, rfl⟩ ?_
      rintro i ⟨hi, hall⟩
      rcases Nat.lt_or_ge i t.rows.length with hlt | hge
      · have hg := gt_run hps hlt
        have hsucc : allH c t (i + 1) = (allH c t i && c.constraints.all (lv (vk c t i))) := all_succ _ i
        generalize hx : gt ps (i : Int) = x at *
        obtain ⟨x1, st, ho, bd, fr⟩ := x
        have hho : ho = c.constraints.all (lv (vk c t i)) := congrArg Mom.holds hg
        rw [← hho, hall, Bool.true_and] at hsucc
        clear hho hg
        cases ho
        all_goals
          repeat' (first
 | (apply G_rdW; eq_refl; (apply RdB.runs; (repeat first | exact In.here | apply In.there | apply In.skip)); infer_instance; (case ih => infer_instance); omega; omega; rw [hx]; dsimp only [encM])
 | (apply G_ix; eq_refl; eq_refl; (apply RdB.runs; (repeat first | exact In.here | apply In.there | apply In.skip)); (first | eq_refl | omega); omega; omega)
 | (apply GC_seqK; intro K hK)
 | (apply hK; clear hK K)
 | (apply GC_block)
 | (apply GC_region)
 | (apply GL_nil)
 | (apply thenG_normal)
 | (apply thenG_ret)
 | (apply blockG_ret)
 | (apply blockG_normal)
 | (apply GC_ret)
 | (apply GC_skip)
 | (apply GC_if_true; eq_refl)
 | (apply GC_if_false; eq_refl)
 | (apply retG1; eq_refl)
 | (apply GL_on; eq_refl; eq_refl)
 | (apply G_pv; eq_refl; first | exact trivial | omega)
 | (apply G_field; eq_refl)
 | (apply G_ld; eq_refl; (repeat first | exact In.here | apply In.there | apply In.skip); eq_refl)
 | (apply G_cmpT; eq_refl; eq_refl; omega)
 | (apply G_alloc; eq_refl; intro _)
 | (apply G_stW; (first | exact wr_p | kernel_rfl); eq_refl; eq_refl; eq_refl; eq_refl; (repeat first | exact Upd.here | apply Upd.there | apply Upd.skip); eq_refl))
        · refine ⟨[], (by repeat first | exact Wk.nil | exact Wk.refl | (apply Wk.cons; (focus ((repeat first | exact Rem.here | apply Rem.there | apply Rem.skip); done))) | apply Wk.nilv | apply Wk.last | apply Wk.drop), rfl, ?_⟩
          have : allH c t t.rows.length = false := by
            cases h9 : allH c t t.rows.length
            · rfl
            · have h8 := allH_iff.1 h9 i hlt
              have h7 : allH c t (i + 1) = true := allH_iff.2 fun k hk => allH_iff.1 h9 k (by omega)
              rw [hsucc] at h7
              cases h7
          rw [this]
          rfl
        · exact ⟨i + 1, (by repeat first | exact trivial | refine ⟨rfl, ?_⟩), (by repeat first | exact Wk.nil | exact Wk.refl | (apply Wk.cons; (focus ((repeat first | exact Rem.here | apply Rem.there | apply Rem.skip); done))) | apply Wk.nilv | apply Wk.last | apply Wk.drop), ⟨hlt, hsucc⟩, by omega⟩
      · obtain rfl : i = t.rows.length := by omega
        repeat' (first
 | (apply GC_seqK; intro K hK)
 | (apply hK; clear hK K)
 | (clear hK K; apply hK; clear hK K)
 | (apply GC_region)
 | (apply GL_nil)
 | (apply thenG_normal)
 | (apply thenG_exit)
 | (apply blockG_hit)
 | (apply GC_ret)
 | (apply GC_exit)
 | (apply GC_if_false; eq_refl)
 | (apply retG1; eq_refl)
 | (apply GL_on; eq_refl; eq_refl)
 | (apply G_pv; eq_refl; first | exact trivial | omega)
 | (apply G_cmpF; eq_refl; eq_refl; omega))
        exact ⟨[], (by repeat first | exact Wk.nil | exact Wk.refl | (apply Wk.cons; (focus ((repeat first | exact Rem.here | apply Rem.there | apply Rem.skip); done))) | apply Wk.nilv | apply Wk.last | apply Wk.drop), rfl, by rw [hall]; rfl⟩
  · rw [runT_run hr]
    generalize startB c t.init = β at *
    generalize runE c t = ε at *
    by_cases hσ : startE c t.init = 0
    · rw [hσ] at hst
      repeat' (first
 | (apply G_call; eq_refl; eq_refl; (apply hst; (repeat first | exact In.here | apply In.there | apply In.skip)); rintro _ _ ⟨rfl, rfl⟩)
 | (apply G_call; eq_refl; eq_refl; (apply hrun; (repeat first | exact In.here | apply In.there | apply In.skip)); rintro _ _ ⟨ps, A9, k9, rfl, hps, rfl⟩)
 | (apply GC_seqK; intro K hK)
 | (apply hK; clear hK K)
 | (apply GC_region)
 | (apply GL_nil)
 | (apply thenG_normal)
 | (apply thenG_ret)
 | (apply GC_ret)
 | (apply GC_if_true; eq_refl)
 | (apply retG1; eq_refl)
 | (apply GL_on; eq_refl; eq_refl)
 | (apply GL_off; eq_refl; eq_refl)
 | (apply G_pv; eq_refl; first | exact trivial | omega)
 | (apply G_field; eq_refl)
 | (apply G_ld; eq_refl; (repeat first | exact In.here | apply In.there | apply In.skip); eq_refl)
 | (apply G_ldW; eq_refl; (repeat first | exact In.here | apply In.there | apply In.skip); eq_refl)
 | (apply G_cmpT; eq_refl; eq_refl; omega)
 | (apply G_cmpF; eq_refl; eq_refl; omega)
 | (apply G_box; eq_refl; eq_refl; intro _))
      exact ⟨[], (by repeat first | exact Wk.nil | exact Wk.refl | (apply Wk.cons; (focus ((repeat first | exact Rem.here | apply Rem.there | apply Rem.skip); done))) | apply Wk.nilv | apply Wk.last | apply Wk.drop), rfl, rfl⟩
    · generalize startE c t.init = σ at *
      repeat' (first
 | (apply G_call; eq_refl; eq_refl; (apply hst; (repeat first | exact In.here | apply In.there | apply In.skip)); rintro _ _ ⟨rfl, rfl⟩)
 | (apply G_call; eq_refl; eq_refl; (apply hrun; (repeat first | exact In.here | apply In.there | apply In.skip)); rintro _ _ ⟨ps, A9, k9, rfl, hps, rfl⟩)
 | (apply GC_seqK; intro K hK)
 | (apply hK; clear hK K)
 | (apply GC_region)
 | (apply GL_nil)
 | (apply thenG_normal)
 | (apply thenG_ret)
 | (apply GC_ret)
 | (apply GC_if_true; eq_refl)
 | (apply retG1; eq_refl)
 | (apply GL_on; eq_refl; eq_refl)
 | (apply GL_off; eq_refl; eq_refl)
 | (apply G_pv; eq_refl; first | exact trivial | omega)
 | (apply G_field; eq_refl)
 | (apply G_ld; eq_refl; (repeat first | exact In.here | apply In.there | apply In.skip); eq_refl)
 | (apply G_ldW; eq_refl; (repeat first | exact In.here | apply In.there | apply In.skip); eq_refl)
 | (apply G_cmpT; eq_refl; eq_refl; omega)
 | (apply G_box; eq_refl; eq_refl; intro _))
      exact ⟨[], (by repeat first | exact Wk.nil | exact Wk.refl | (apply Wk.cons; (focus ((repeat first | exact Rem.here | apply Rem.there | apply Rem.skip); done))) | apply Wk.nilv | apply Wk.last | apply Wk.drop), rfl, rfl⟩
end SC
end Go.Proofs.Ytbmngkdnebklpaa
end
section
/- trestlelaw16: FramesHolds: the walk. -/
set_option linter.unusedVariables false
set_option linter.unusedSimpArgs false
namespace Go.Proofs.Ytbmngkdnebklpaa
namespace SC
open Go.Proofs
/-- The trace of a model, bound together. -/
theorem TrR.to {P : Program} {f : FuncId} {args : List Value} {w : World} {ini : List Bool} {rs : List (List Bool)} {lp ε : Int} (h : CVN P f args w (TrR ini rs lp ε)) : CVN P f args w fun v N => ∃ (t : Trc) (a b : Hdl), t.init = ini ∧ t.rows.map (·.2) = rs ∧ t.loop = lp ∧ v = .tuple #[.agg (tcs t a b).toArray, nu ε] ∧ N = [.any (bun (trcB t a b))] :=
  h.bun.mono fun v N ⟨N', ⟨ps, a, b, e1, e2, e3⟩, e4⟩ => ⟨⟨ini, ps, lp⟩, a, b, rfl, e2, rfl, e1, by rw [e4, e3]⟩
attribute [local irreducible] WC WL WX WS WO OX Does DoesU Enters CV Pure thenQ blockQ retQ Wants retQC GC GL GS GX RdB thenG blockG retG Rd At gt CVN CVM
attribute [local irreducible] bun
set_option maxRecDepth 100000
end SC
end Go.Proofs.Ytbmngkdnebklpaa
end

/- Texts of this seat, one behind the other: N20. -/
import Derived.Test.YticndofcfacopaaW3
section
/- trestlelaw15: EncodeOnly: the walk. -/
set_option linter.unusedVariables false
set_option linter.unusedSimpArgs false
namespace Go.Proofs.Yticndofcfacopaa
namespace SC
open Go.Proofs
/-- Whether so many gates have the same values. -/
def sameG (c : Circ) (u v : List Bool) : Nat → Bool
  | 0 => !gt v 0
  | n + 1 => sameG c u v n && (gt u ((gt c.ands (n : Int)).1 / 2) == gt v ((gt c.ands (n : Int)).1 / 2))
theorem sameG_iff {c : Circ} {u v : List Bool} : ∀ n : Nat, sameG c u v n = true ↔ gt v 0 = false ∧ ∀ k : Nat, k < n → gt u ((gt c.ands (k : Int)).1 / 2) = gt v ((gt c.ands (k : Int)).1 / 2)
  | 0 => by
    unfold sameG
    constructor
    · intro h; exact ⟨by simpa using h, fun k hk => absurd hk (Nat.not_lt_zero _)⟩
    · intro h; simp [h.1]
  | n + 1 => by
    unfold sameG
    rw [Bool.and_eq_true, sameG_iff n]
    constructor
    · rintro ⟨⟨h1, h2⟩, h3⟩
      refine ⟨h1, fun k hk => ?_⟩
      by_cases hkn : k = n
      · subst hkn; exact eq_of_beq h3
      · exact h2 k (by omega)
    · rintro ⟨h1, h2⟩
      exact ⟨⟨h1, fun k hk => h2 k (by omega)⟩, by rw [h2 n (Nat.lt_succ_self n)]; exact beq_self_eq_true _⟩
attribute [local irreducible] WC WL WX WS WO OX Does DoesU Enters CV Pure thenQ blockQ retQ Wants retQC GC GL GS GX RdB thenG blockG retG Rd At gt CVN CVM
attribute [local irreducible] bun
set_option maxRecDepth 100000
set_option maxHeartbeats 1600000 in
theorem encodeOnly_cv {w : World} {c : Circ} {h js : Hd} {S : Option Addr} {k : Nat} {md : List Bool} (H : CirIn w c h js) (hS : RowA w booc 1 S md) (hn : md.length ≤ 9223372036854775807) :
    CVN Try.prog 6 [.agg (ccells c h).toArray, .slice S md.length k] w fun v N => N = [] ∧ v = .bool true := by
  have hG : ∀ Γ, In Γ (.old w none_) → ∀ w', Mem w' Γ → CVN Try.prog 21 [.agg (ccells c h).toArray] w' (CnfB (cnfGV c) (cnfGM c) (lookM c).2) := fun Γ ho w' M => CnfRE.to (GatesP_cv (H.chg (ho.old M)))
  have hW : ∀ w', CVN Try.prog 19 [] w' _ := fun w' => works15_cv
  by_cases he : (lookM c).2 = 0
  · have R := right_of H.at_ H.sane he
    have m0 := R.m0
    have m1 := R.m1
    have e3 : cnfGV c = c.max + 1 := by unfold cnfGV; rw [if_pos he]
    have e4 : cnfGM c = clsM c (fun _ => true) c.ands.length := by unfold cnfGM; rw [if_pos he]
    rw [he] at hG
    by_cases hl : (md.length : Int) = c.max + 1
    · have hlen : md.length = (c.max + 1).toNat := by omega
      have l1 : (stM15 c md).length = c.latches.length := List.length_map _
      have l2 : (rwM15 c md).length = c.inputs.length := List.length_map _
      have V := val_ok R (stM15 c md) (rwM15 c md)
      have hz : stepE c (stM15 c md) (rwM15 c md) = 0 := stepE_ok he l1 l2
      have hH : ∀ Γ A k' ps, In Γ (.old w none_) → In Γ (.any (bun (cnB ps A k'))) → ps.map (·.2) = cnfGM c → ∀ w', Mem w' Γ → CVN Try.prog 30 [.agg #[nu (cnfGV c), .slice A ps.length k'], .slice S md.length k] w' _ := fun Γ A k' ps ho h1 e w' M => holdsB R (fun _ => true) e3 hlen e4 h1 (hS.chg (ho.old M)) e M
      have hSt : ∀ Γ, In Γ (.old w none_) → ∀ w', Mem w' Γ → CVN Try.prog 16 [.agg (ccells c h).toArray, .slice S md.length k] w' (StepER (stM15 c md) (rwM15 c md) 0) := fun Γ ho w' M => by
        have := StepP_cv (k2 := k) (H.chg (ho.old M)) (hS.chg (ho.old M))
        have e5 : mdE c md = 0 := mdE_ok he hl
        unfold sM rM at this
        rwa [e5, if_pos rfl, if_pos rfl] at this
      have hM : ∀ Γ A B k1 k2, In Γ (.old w none_) → In Γ (.vec booc 1 4 A k1 (stM15 c md)) → In Γ (.vec booc 1 4 B k2 (rwM15 c md)) → ∀ w', Mem w' Γ → CVN Try.prog 13 [.agg (ccells c h).toArray, .slice A (stM15 c md).length k1, .slice B (rwM15 c md).length k2] w' fun v N => ∃ A k, v = .tuple #[.slice A (valM c (stM15 c md) (rwM15 c md)).length k, nu 0] ∧ N = [.vec booc 1 4 A k (valM c (stM15 c md) (rwM15 c md))] := fun Γ A B k1 k2 ho ha hb w' M => by
        have := ModelP_cv (k2 := k1) (k3 := k2) (H.chg (ho.old M)) (ha.row M) (hb.row M)
        unfold ValsR valsM at this
        rwa [hz, if_pos rfl] at this
      unfold StepER at hSt
      have hmo : cnfT md (cnfGM c) = sameG c (valM c (stM15 c md) (rwM15 c md)) md c.ands.length := by
        rw [Bool.eq_iff_iff, e4, model_only R hlen, sameG_iff]
      rw [hmo] at hH
      have hAnd := H.at_.ands
      have hul : (valM c (stM15 c md) (rwM15 c md)).length = md.length := by rw [V.len, hlen]
      have n3 := R.nAnd
      clear V e4 hmo
      generalize valM c (stM15 c md) (rwM15 c md) = u at *
      generalize stM15 c md = st at *
      generalize rwM15 c md = rw at *
      generalize cnfGM c = m at *
      generalize cnfGV c = V at *
      refine CVN.enter 111 [4] Try.func6 rfl rfl rfl (by decide) rfl ?_
      repeat' (first
      | (apply G_call; eq_refl; eq_refl; (apply hG; (repeat first | exact In.here | apply In.there | apply In.skip)); rintro _ _ ⟨p1, A1, k1, rfl, e1, rfl⟩)
      | (apply G_call; eq_refl; eq_refl; (apply hH; (repeat first | exact In.here | apply In.there | apply In.skip); (repeat first | exact In.here | apply In.there | apply In.skip); assumption); rintro _ _ ⟨rfl, i, rfl⟩)
      | (apply G_call; eq_refl; eq_refl; (apply hSt; (repeat first | exact In.here | apply In.there | apply In.skip)); rintro _ _ ⟨A3, k5, A4, k6, rfl, rfl⟩)
      | (apply G_call; eq_refl; eq_refl; (apply hM; (repeat first | exact In.here | apply In.there | apply In.skip); (repeat first | exact In.here | apply In.there | apply In.skip); (repeat first | exact In.here | apply In.there | apply In.skip)); rintro _ _ ⟨A5, k7, rfl, rfl⟩)
      | (apply G_call; eq_refl; eq_refl; (exact fun w' _ => hW w'); rintro _ _ ⟨rfl, rfl⟩)
      | (apply GC_seqK; intro K hK)
      | (apply hK; clear hK K)
      | (apply GC_block)
      | (apply GC_region)
      | (apply GL_nil)
      | (apply thenG_normal)
      | (apply GC_skip)
      | (apply GC_if_false; eq_refl)
      | (apply GL_on; eq_refl; eq_refl)
      | (apply G_pv; eq_refl; first | exact trivial | omega)
      | (apply G_field; eq_refl)
      | (apply G_ld; eq_refl; (repeat first | exact In.here | apply In.there | apply In.skip); eq_refl)
      | (apply G_ldW; eq_refl; (repeat first | exact In.here | apply In.there | apply In.skip); eq_refl)
      | (apply G_rd; eq_refl; (first | (apply Rd.own; (repeat first | exact In.here | apply In.there | apply In.skip); infer_instance) | (apply Rd.old; (repeat first | exact In.here | apply In.there | apply In.skip); assumption) | (apply Rd.oldR; (repeat first | exact In.here | apply In.there | apply In.skip); assumption) | exact Rd.nil | assumption); (case ih => infer_instance); omega; omega; eq_refl)
      | (apply G_cmpF; eq_refl; eq_refl; omega)
      | (apply G_len; eq_refl)
      | (apply G_ix; eq_refl; eq_refl; (first | (apply Rd.own; (repeat first | exact In.here | apply In.there | apply In.skip); infer_instance) | (apply Rd.old; (repeat first | exact In.here | apply In.there | apply In.skip); assumption) | (apply Rd.oldR; (repeat first | exact In.here | apply In.there | apply In.skip); assumption) | exact Rd.nil | assumption); (first | eq_refl | omega); omega; omega)
      | (apply G_alloc; eq_refl; intro _)
      | (apply G_box; eq_refl; eq_refl; intro _)
      | (apply G_stW; (first | exact wr_p | kernel_rfl); eq_refl; eq_refl; eq_refl; eq_refl; (repeat first | exact Upd.here | apply Upd.there | apply Upd.skip); eq_refl))
      rename_i b1 b2
      refine GC_loopK [1, 2, 7, 13, 85, 86] (fun s : Nat × Bool => [(87, nu s.1), (15, .bool s.2)]) (fun _ => [.box b1 29 (ccells c h), .vec booc 1 4 A5 k7 u, .old w none_]) (fun s => s.1 ≤ c.ands.length ∧ s.2 = sameG c u md s.1) (fun s => c.ands.length - s.1) (0, !gt md 0) (by repeat first | exact Pick.nil | (apply Pick.cons; eq_refl)) (by repeat first | exact trivial | refine ⟨rfl, ?_⟩) (by repeat first | exact Wk.nil | exact Wk.refl | (apply Wk.cons; (focus ((repeat first | exact Rem.here | apply Rem.there | apply Rem.skip); done))) | apply Wk.nilv | apply Wk.last | apply Wk.drop) ⟨Nat.zero_le _, rfl⟩ ?_
      rintro ⟨j, σ⟩ ⟨hj, hs⟩
      dsimp only at hj hs ⊢
      rcases Nat.lt_or_ge j c.ands.length with hlt | hge
      · obtain ⟨g1, g2, g3⟩ := R.gate (gt_mem (l := c.ands) (i := (j : Int)) (by omega) (by omega))
        have hss : sameG c u md (j + 1) = (σ && (gt u ((gt c.ands (j : Int)).1 / 2) == gt md ((gt c.ands (j : Int)).1 / 2))) := by rw [hs]; rfl
        unfold defR at g1
        cases σ
        · repeat' (first
      | (apply GC_seqK; intro K hK)
      | (apply hK; clear hK K)
      | (apply GC_block)
      | (apply GC_region)
      | (apply GL_nil)
      | (apply thenG_normal)
      | (apply blockG_normal)
      | (apply GC_skip)
      | (apply GC_if_true; eq_refl)
      | (apply GL_on; eq_refl; eq_refl)
      | (refine GC_draws (id := 15) [.q 0, .q 1, .q 2, .q 3, .q 4, .q 5, .q 6, .q 7, .q 8, .q 9, .q 10, .q 11, .q 12, .q 13, .q 14, .q 15, .q 16] mixed (by kernel_rfl) (by kernel_rfl) ?_)
      | (apply GS_nil)
      | (apply GS_qon; eq_refl; eq_refl; eq_refl; eq_refl)
      | (apply GS_qoff; eq_refl; eq_refl; eq_refl; eq_refl)
      | (apply G_pv; eq_refl; first | exact trivial | omega)
      | (apply G_rdW; eq_refl; (first | (apply Rd.own; (repeat first | exact In.here | apply In.there | apply In.skip); infer_instance) | (apply Rd.old; (repeat first | exact In.here | apply In.there | apply In.skip); assumption) | (apply Rd.oldR; (repeat first | exact In.here | apply In.there | apply In.skip); assumption) | exact Rd.nil | assumption); infer_instance; (case ih => infer_instance); omega; omega)
      | (apply G_cmpT; eq_refl; eq_refl; omega)
      | (apply G_ix; eq_refl; eq_refl; (first | (apply Rd.own; (repeat first | exact In.here | apply In.there | apply In.skip); infer_instance) | (apply Rd.old; (repeat first | exact In.here | apply In.there | apply In.skip); assumption) | (apply Rd.oldR; (repeat first | exact In.here | apply In.there | apply In.skip); assumption) | exact Rd.nil | assumption); (first | eq_refl | omega); omega; omega)
      | (apply G_alloc; eq_refl; intro _)
      | (apply G_stW; (first | exact wr_p | kernel_rfl); eq_refl; eq_refl; eq_refl; eq_refl; (repeat first | exact Upd.here | apply Upd.there | apply Upd.skip); eq_refl))
          exact ⟨(j + 1, _), (by repeat first | exact trivial | refine ⟨rfl, ?_⟩), (by repeat first | exact Wk.nil | exact Wk.refl | (apply Wk.cons; (focus ((repeat first | exact Rem.here | apply Rem.there | apply Rem.skip); done))) | apply Wk.nilv | apply Wk.last | apply Wk.drop), ⟨hlt, hss.symm⟩, by simp only; omega⟩
        · repeat' (first
      | (apply GC_seqK; intro K hK)
      | (apply hK; clear hK K)
      | (apply GC_block)
      | (apply GC_region)
      | (apply GL_nil)
      | (apply thenG_normal)
      | (apply blockG_normal)
      | (apply GC_skip)
      | (apply GC_if_true; eq_refl)
      | (apply GL_on; eq_refl; eq_refl)
      | (refine GC_draws (id := 15) [.q 0, .q 1, .q 2, .q 3, .q 4, .q 5, .q 6, .q 7, .q 8, .q 9, .q 10, .q 11, .q 12, .q 13, .q 14, .q 15, .q 16] mixed (by kernel_rfl) (by kernel_rfl) ?_)
      | (apply GS_nil)
      | (apply GS_qon; eq_refl; eq_refl; eq_refl; eq_refl)
      | (apply G_pv; eq_refl; first | exact trivial | omega)
      | (apply G_field; eq_refl)
      | (apply G_ld; eq_refl; (repeat first | exact In.here | apply In.there | apply In.skip); eq_refl)
      | (apply G_rd; eq_refl; (first | (apply Rd.own; (repeat first | exact In.here | apply In.there | apply In.skip); infer_instance) | (apply Rd.old; (repeat first | exact In.here | apply In.there | apply In.skip); assumption) | (apply Rd.oldR; (repeat first | exact In.here | apply In.there | apply In.skip); assumption) | exact Rd.nil | assumption); (case ih => infer_instance); omega; omega; eq_refl)
      | (apply G_rdW; eq_refl; (first | (apply Rd.own; (repeat first | exact In.here | apply In.there | apply In.skip); infer_instance) | (apply Rd.old; (repeat first | exact In.here | apply In.there | apply In.skip); assumption) | (apply Rd.oldR; (repeat first | exact In.here | apply In.there | apply In.skip); assumption) | exact Rd.nil | assumption); infer_instance; (case ih => infer_instance); omega; omega)
      | (apply G_cmpT; eq_refl; eq_refl; omega)
      | (apply G_ix; eq_refl; eq_refl; (first | (apply Rd.own; (repeat first | exact In.here | apply In.there | apply In.skip); infer_instance) | (apply Rd.old; (repeat first | exact In.here | apply In.there | apply In.skip); assumption) | (apply Rd.oldR; (repeat first | exact In.here | apply In.there | apply In.skip); assumption) | exact Rd.nil | assumption); (first | eq_refl | omega); omega; omega)
      | (apply G_eqB; eq_refl; eq_refl)
      | (apply G_alloc; eq_refl; intro _)
      | (apply G_stW; (first | exact wr_p | kernel_rfl); eq_refl; eq_refl; eq_refl; eq_refl; (repeat first | exact Upd.here | apply Upd.there | apply Upd.skip); eq_refl))
          exact ⟨(j + 1, _), (by repeat first | exact trivial | refine ⟨rfl, ?_⟩), (by repeat first | exact Wk.nil | exact Wk.refl | (apply Wk.cons; (focus ((repeat first | exact Rem.here | apply Rem.there | apply Rem.skip); done))) | apply Wk.nilv | apply Wk.last | apply Wk.drop), ⟨hlt, hss.symm⟩, by simp only; omega⟩
      · obtain rfl : j = c.ands.length := by omega
        subst hs
        generalize sameG c u md c.ands.length = σ at *
        cases σ
        all_goals
          repeat' (first
      | (apply GC_seqK; intro K hK)
      | (apply hK; clear hK K)
      | (clear hK K; apply hK; clear hK K)
      | (apply GC_region)
      | (apply GL_nil)
      | (apply thenG_normal)
      | (apply thenG_exit)
      | (apply blockG_hit)
      | (apply GC_ret)
      | (apply GC_exit)
      | (apply GC_if_false; eq_refl)
      | (apply retG1; eq_refl)
      | (apply GL_on; eq_refl; eq_refl)
      | (apply G_pv; eq_refl; first | exact trivial | omega)
      | (apply G_cmpF; eq_refl; eq_refl; omega)
      | (apply G_eqB; eq_refl; eq_refl))
          exact ⟨[], (by repeat first | exact Wk.nil | exact Wk.refl | (apply Wk.cons; (focus ((repeat first | exact Rem.here | apply Rem.there | apply Rem.skip); done))) | apply Wk.nilv | apply Wk.last | apply Wk.drop), rfl, rfl⟩
    · refine CVN.enter 111 [4] Try.func6 rfl rfl rfl (by decide) rfl ?_
      generalize cnfGM c = m at *
      generalize cnfGV c = V at *
      repeat' (first
      | (apply G_call; eq_refl; eq_refl; (apply hG; (repeat first | exact In.here | apply In.there | apply In.skip)); rintro _ _ ⟨p1, A1, k1, rfl, e1, rfl⟩)
      | (apply G_call; eq_refl; eq_refl; (exact fun w' _ => hW w'); rintro _ _ ⟨rfl, rfl⟩)
      | (apply GC_seqK; intro K hK)
      | (apply hK; clear hK K)
      | (apply GC_region)
      | (apply GL_nil)
      | (apply thenG_normal)
      | (apply thenG_ret)
      | (apply GC_ret)
      | (apply GC_skip)
      | (apply GC_if_true; eq_refl)
      | (apply GC_if_false; eq_refl)
      | (apply retG1; eq_refl)
      | (apply GL_on; eq_refl; eq_refl)
      | (apply GL_off; eq_refl; eq_refl)
      | (apply G_pv; eq_refl; first | exact trivial | omega)
      | (apply G_field; eq_refl)
      | (apply G_ld; eq_refl; (repeat first | exact In.here | apply In.there | apply In.skip); eq_refl)
      | (apply G_ldW; eq_refl; (repeat first | exact In.here | apply In.there | apply In.skip); eq_refl)
      | (apply G_cmpT; eq_refl; eq_refl; omega)
      | (apply G_cmpF; eq_refl; eq_refl; omega)
      | (apply G_len; eq_refl)
      | (apply G_alloc; eq_refl; intro _)
      | (apply G_box; eq_refl; eq_refl; intro _)
      | (apply G_stW; (first | exact wr_p | kernel_rfl); eq_refl; eq_refl; eq_refl; eq_refl; (repeat first | exact Upd.here | apply Upd.there | apply Upd.skip); eq_refl))
      exact ⟨[], (by repeat first | exact Wk.nil | exact Wk.refl | (apply Wk.cons; (focus ((repeat first | exact Rem.here | apply Rem.there | apply Rem.skip); done))) | apply Wk.nilv | apply Wk.last | apply Wk.drop), rfl, rfl⟩
  · have e4 : cnfGM c = [] := by unfold cnfGM; rw [if_neg he]
    rw [e4] at hG
    generalize (lookM c).2 = ε at *
    generalize cnfGV c = V at *
    have hG0 : ∀ Γ, In Γ (.old w none_) → ∀ w', Mem w' Γ → CVN Try.prog 21 [.agg (ccells c h).toArray] w' fun v N => ∃ A k, v = .tuple #[.agg #[nu V, .slice A 0 k], nu ε] ∧ N = [.any (bun (cnB [] A k))] := fun Γ ho w' M => (hG Γ ho w' M).mono fun v N ⟨ps, A, k, e1, e2, e3⟩ => by
      obtain rfl := List.map_eq_nil_iff.1 e2
      exact ⟨A, k, e1, e3⟩
    refine CVN.enter 111 [4] Try.func6 rfl rfl rfl (by decide) rfl ?_
    repeat' (first
      | (apply G_call; eq_refl; eq_refl; (apply hG0; (repeat first | exact In.here | apply In.there | apply In.skip)); rintro _ _ ⟨A1, k1, rfl, rfl⟩)
      | (apply G_call; eq_refl; eq_refl; (exact fun w' _ => hW w'); rintro _ _ ⟨rfl, rfl⟩)
      | (apply GC_seqK; intro K hK)
      | (apply hK; clear hK K)
      | (apply GC_region)
      | (apply GL_nil)
      | (apply thenG_normal)
      | (apply thenG_ret)
      | (apply GC_ret)
      | (apply GC_skip)
      | (apply GC_if_true; eq_refl)
      | (apply GC_if_false; eq_refl)
      | (apply retG1; eq_refl)
      | (apply GL_on; eq_refl; eq_refl)
      | (apply GL_off; eq_refl; eq_refl)
      | (apply G_pv; eq_refl; first | exact trivial | omega)
      | (apply G_field; eq_refl)
      | (apply G_ld; eq_refl; (repeat first | exact In.here | apply In.there | apply In.skip); eq_refl)
      | (apply G_ldW; eq_refl; (repeat first | exact In.here | apply In.there | apply In.skip); eq_refl)
      | (apply G_cmpT; eq_refl; eq_refl; omega)
      | (apply G_cmpF; eq_refl; eq_refl; omega)
      | (apply G_len; eq_refl)
      | (apply G_alloc; eq_refl; intro _)
      | (apply G_box; eq_refl; eq_refl; intro _)
      | (apply G_stW; (first | exact wr_p | kernel_rfl); eq_refl; eq_refl; eq_refl; eq_refl; (repeat first | exact Upd.here | apply Upd.there | apply Upd.skip); eq_refl))
    exact ⟨[], (by repeat first | exact Wk.nil | exact Wk.refl | (apply Wk.cons; (focus ((repeat first | exact Rem.here | apply Rem.there | apply Rem.skip); done))) | apply Wk.nilv | apply Wk.last | apply Wk.drop), rfl, rfl⟩
end SC
end Go.Proofs.Yticndofcfacopaa
end

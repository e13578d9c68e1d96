/- Texts of this seat, one behind the other: O23. -/
import Derived.Test.YtbmngkdnebklpaaZ4
section
/- trestlelaw16: FramesOnly: the walk. -/
set_option linter.unusedVariables false
set_option linter.unusedSimpArgs false
namespace Go.Proofs.Ytbmngkdnebklpaa
namespace SC
open Go.Proofs
/-- A trace in memory of its own, bound together. -/
theorem trcIn_bun {Γ : Mm} {w : World} {t : Trc} {a b : Hdl} (hi : In Γ (.any (bun (trcB t a b)))) (li : t.init.length ≤ 140737488351232) (lr : t.rows.length ≤ 5864062014634) (le : ∀ p ∈ t.rows, p.2.length ≤ 140737488351232) (lo : fits t.loop) (M : Mem w Γ) : TrcIn w t a b := by
  have M' := hi.bun M
  have h1 : In (trcB t a b) (.vec booc 1 4 a.1 a.2 t.init) := .here
  have h2 : In (trcB t a b) (.vec encS 1 41 b.1 b.2 t.rows) := .there .here
  have hp : ∀ p ∈ t.rows, In (trcB t a b) (.vec booc 1 4 p.1.1 p.1.2 p.2) := fun p hp => .there (.there (In.of (fam_mem hp (by unfold rowE; simp))))
  exact ⟨h1.row M', h2.row M', fun p h => (hp p h).row M', fun h => h1.nil0 M' h, fun h => h2.nil0 M' h, fun p h hA => (hp p h).nil0 M' hA, li, lr, le, lo⟩
attribute [local irreducible] WC WL WX WS WO OX Does DoesU Enters CV Pure thenQ blockQ retQ Wants retQC GC GL GS GX RdB thenG blockG retG Rd At gt CVN CVM
attribute [local irreducible] bun
set_option maxRecDepth 100000
set_option maxHeartbeats 1600000 in
theorem framesOnly_cv {w : World} {c : Circ} {h js : Hd} {n : Int} {S : Option Addr} {kS : Nat} {md : List Bool} (H : CirIn w c h js) (hx : -9223372036854775808 ≤ n ∧ n ≤ 9223372036854775807) (hS : RowA w booc 1 S md) (hmn : md.length ≤ 9223372036854775807) :
    CVN Try.prog 5 [.agg (ccells c h).toArray, nu n, .slice S md.length kS] w fun v N => N = [] ∧ v = .bool true := by
  have hW : ∀ w', CVN Try.prog 8 [] w' _ := fun w' => works16_cv
  have hco : ∀ w', CVN Try.prog 9 [.agg (ccells c h).toArray, nu n] w' _ := fun w' => cost_cv
  have hFo : ∀ Γ, In Γ (.old w none_) → ∀ w', Mem w' Γ → CVN Try.prog 10 [.agg (ccells c h).toArray, nu n] w' (CnfB (rnV c n) (rnL c n) (rnE c n)) := fun Γ ho w' M => CnfT.to (RunP16_cv (H.chg (ho.old M)))
  have hTr : ∀ Γ, In Γ (.old w none_) → ∀ w', Mem w' Γ → CVN Try.prog 17 [.agg (ccells c h).toArray, nu n, .slice S md.length kS] w' _ := fun Γ hi w' M => TrR.to (TraceP_cv (n := n) (k2 := kS) (H.chg (hi.old M)) (hS.chg (hi.old M)) hmn)
  refine CVN.enter 176 [6] Try.func5 rfl rfl rfl (by decide) rfl ?_
  by_cases hc1 : 30 < n
  · repeat' (first
 | (apply G_call; eq_refl; eq_refl; (exact fun w' _ => hW w'); rintro _ _ ⟨rfl, rfl⟩)
 | (apply GC_seqK; intro K hK)
 | (apply hK; clear hK K)
 | (apply GC_region)
 | (apply GL_nil)
 | (apply thenG_normal)
 | (apply thenG_ret)
 | (apply GC_ret)
 | (apply GC_skip)
 | (apply GC_if_true; eq_refl)
 | (apply GC_if_false; eq_refl)
 | (apply retG1; eq_refl)
 | (apply GL_on; eq_refl; eq_refl)
 | (apply GL_off; eq_refl; eq_refl)
 | (apply G_pv; eq_refl; first | exact trivial | omega)
 | (apply G_cmpT; eq_refl; eq_refl; omega)
 | (apply G_box; eq_refl; eq_refl; intro _))
    exact ⟨[], (by repeat first | exact Wk.nil | exact Wk.refl | (apply Wk.cons; (focus ((repeat first | exact Rem.here | apply Rem.there | apply Rem.skip); done))) | apply Wk.nilv | apply Wk.last | apply Wk.drop), rfl, rfl⟩
  by_cases hc : 40 < n ∧ 30 < c.max
  · omega
  rw [decide_eq_false hc] at hco
  unfold CnfB at hFo
  by_cases ht : trE c n md = 0
  · obtain ⟨hv, hl⟩ := trE_zero ht
    obtain ⟨he, n1, n2, n3⟩ := vrE_zero hv
    have R := right_of H.at_ H.sane he
    have m0 := R.m0
    have m1 := R.m1
    rw [if_pos ht, if_pos ht, if_pos ht, ht] at hTr
    obtain ⟨q, rfl⟩ : ∃ q : Nat, n = ((q + 1 : Nat) : Int) := ⟨(n - 1).toNat, by omega⟩
    rw [Int.toNat_natCast] at hTr
    by_cases hz : rnE c ((q + 1 : Nat) : Int) = 0
    · have hml : md.length = 1 + (q + 1) * c.max.toNat := by
        have e : ((q + 1 : Nat) : Int) * c.max = (((q + 1) * c.max.toNat : Nat) : Int) := by rw [Int.natCast_mul, Int.toNat_of_nonneg m0]
        omega
      have hrl : rnL c ((q + 1 : Nat) : Int) = runS c q := by rw [rnL_ok hz, show (((q + 1 : Nat) : Int) - 1).toNat = q by omega]
      have hHo : ∀ Γ A k ps, In Γ (.old w none_) → In Γ (.any (bun (cnB ps A k))) → ps.map (·.2) = rnL c ((q + 1 : Nat) : Int) → ∀ w', Mem w' Γ → CVN Try.prog 16 [.agg #[nu (rnV c ((q + 1 : Nat) : Int)), .slice A ps.length k], .slice S md.length kS] w' fun v N => N = [] ∧ ∃ i : Int, v = .tuple #[.bool (cnfT md (runS c q)), nu i, nu 0] := fun Γ A k ps ho h1 e w' M => by
        have := holdsF (kd := kS) R hz (rnV_ok hz) hl h1 (hS.chg (ho.old M)) e M
        rwa [hrl] at this
      rw [hz] at hFo
      repeat' (first
 | (apply G_call; eq_refl; eq_refl; (exact fun w' _ => hco w'); rintro _ _ ⟨rfl, rfl⟩)
 | (apply G_call; eq_refl; eq_refl; (exact fun w' _ => hW w'); rintro _ _ ⟨rfl, rfl⟩)
 | (apply G_call; eq_refl; eq_refl; (apply hFo; (repeat first | exact In.here | apply In.there | apply In.skip)); rintro _ _ ⟨p1, A1, k1, rfl, e1, rfl⟩)
 | (apply G_call; eq_refl; eq_refl; (apply hTr; (repeat first | exact In.here | apply In.there | apply In.skip)); rintro _ _ ⟨t', a', b', q1, q2, q3, rfl, rfl⟩)
 | (apply G_call; eq_refl; eq_refl; (apply hHo; (repeat first | exact In.here | apply In.there | apply In.skip); (repeat first | exact In.here | apply In.there | apply In.skip); assumption); rintro _ _ ⟨rfl, i1, rfl⟩)
 | (apply GC_seqK; intro K hK)
 | (apply hK; clear hK K)
 | (apply GC_region)
 | (apply GL_nil)
 | (apply thenG_normal)
 | (apply GC_skip)
 | (apply GC_if_false; eq_refl)
 | (apply GL_on; eq_refl; eq_refl)
 | (apply G_pv; eq_refl; first | exact trivial | omega)
 | (apply G_ldW; eq_refl; (repeat first | exact In.here | apply In.there | apply In.skip); eq_refl)
 | (apply G_cmpF; eq_refl; eq_refl; omega)
 | (apply G_alloc; eq_refl; intro _)
 | (apply G_box; eq_refl; eq_refl; intro _)
 | (apply G_stW; (first | exact wr_p | kernel_rfl); eq_refl; eq_refl; eq_refl; eq_refl; (repeat first | exact Upd.here | apply Upd.there | apply Upd.skip); eq_refl))
      have hO : OfM c md (q + 1) t' := ⟨q1, q2, q3⟩
      have F := hO.fit (by omega) (by omega)
      have hr := runE_fit he F
      have hst := hO.strt
      have htl := hO.len
      have l1 := R.nIn
      have l2 := R.nLat
      have hTi : ∀ Γ w', In Γ (.any (bun (trcB t' a' b'))) → Mem w' Γ → TrcIn w' t' a' b' := fun Γ w' hi M => trcIn_bun hi (by have := F.init; omega) (by omega) (fun p hp => by have := F.rows p hp; omega) (by rw [q3]; exact ⟨by decide, by decide⟩) M
      have hMo : ∀ Γ, In Γ (.old w none_) → In Γ (.any (bun (trcB t' a' b'))) → ∀ w', Mem w' Γ → CVN Try.prog 14 [.agg (ccells c h).toArray, nu ((q + 1 : Nat) : Int), .agg (tcs t' a' b').toArray] w' _ := fun Γ hi h2 w' M => ModelF_cv (n := ((q + 1 : Nat) : Int)) (H.chg (hi.old M)) (hTi Γ w' h2 M)
      have hRn : ∀ Γ, In Γ (.old w none_) → In Γ (.any (bun (trcB t' a' b'))) → ∀ w', Mem w' Γ → CVN Try.prog 15 [.agg (ccells c h).toArray, .agg (tcs t' a' b').toArray] w' _ := fun Γ hi h2 w' M => run16_cv (H.chg (hi.old M)) (hTi Γ w' h2 M)
      rw [runT_of hr, htl] at hRn
      cases hsh : (startsM c t'.init c.latches.length && allH c t' (q + 1))
      · have hb := only_no R hO hml hsh
        have hm := mtE_no (t := t') hv (by omega) (by rw [hst]; exact hr) (by rw [hst, htl]; exact hsh)
        rw [hsh] at hRn
        rw [hb]
        have hMo2 : ∀ Γ, In Γ (.old w none_) → In Γ (.any (bun (trcB t' a' b'))) → ∀ w', Mem w' Γ → CVN Try.prog 14 [.agg (ccells c h).toArray, nu ((q + 1 : Nat) : Int), .agg (tcs t' a' b').toArray] w' fun v N => v = .tuple #[.slice none 0 0, nu 3] ∧ N = [] := fun Γ hi h2 w' M => (hMo Γ hi h2 w' M).mono fun v N h9 => by rw [hm] at h9; exact h9.elim (fun h8 => absurd h8.1 (by decide)) fun h8 => h8.2
        repeat' (first
 | (apply G_call; eq_refl; eq_refl; (apply hMo2; (repeat first | exact In.here | apply In.there | apply In.skip); (repeat first | exact In.here | apply In.there | apply In.skip)); rintro _ _ ⟨rfl, rfl⟩)
 | (apply G_call; eq_refl; eq_refl; (apply hRn; (repeat first | exact In.here | apply In.there | apply In.skip); (repeat first | exact In.here | apply In.there | apply In.skip)); rintro _ _ ⟨rfl, rfl⟩)
 | (apply GC_seqK; intro K hK)
 | (apply hK; clear hK K)
 | (apply GC_region)
 | (apply GL_nil)
 | (apply thenG_normal)
 | (apply thenG_ret)
 | (apply GC_ret)
 | (apply GC_if_true; eq_refl)
 | (apply retG1; eq_refl)
 | (apply GL_on; eq_refl; eq_refl)
 | (apply G_pv; eq_refl; first | exact trivial | omega)
 | (apply G_ldW; eq_refl; (repeat first | exact In.here | apply In.there | apply In.skip); eq_refl)
 | (apply G_cmpT; eq_refl; eq_refl; omega))
        exact ⟨[], (by repeat first | exact Wk.nil | exact Wk.refl | (apply Wk.cons; (focus ((repeat first | exact Rem.here | apply Rem.there | apply Rem.skip); done))) | apply Wk.nilv | apply Wk.last | apply Wk.drop), rfl, rfl⟩
      · obtain ⟨hs, hh⟩ := Bool.and_eq_true_iff.1 hsh
        have hm := mtE_ok (t := t') hv (by omega) (by rw [hst]; exact hr) (by rw [hst, htl]; exact hsh)
        have hMo2 : ∀ Γ, In Γ (.old w none_) → In Γ (.any (bun (trcB t' a' b'))) → ∀ w', Mem w' Γ → CVN Try.prog 14 [.agg (ccells c h).toArray, nu ((q + 1 : Nat) : Int), .agg (tcs t' a' b').toArray] w' fun v N => ∃ out A k, v = .tuple #[.slice A out.length k, nu 0] ∧ GoodM c t' (q + 1) out ∧ N = [.vec booc 1 4 A k out] := fun Γ hi h2 w' M => (hMo Γ hi h2 w' M).mono fun v N h9 => h9.elim (fun h8 => by have := h8.2; rw [hst] at this; exact this) fun h8 => absurd hm h8.1
        repeat' (first
 | (apply G_call; eq_refl; eq_refl; (apply hMo2; (repeat first | exact In.here | apply In.there | apply In.skip); (repeat first | exact In.here | apply In.there | apply In.skip)); rintro _ _ ⟨out, A2, k2, rfl, G, rfl⟩)
 | (apply GC_seqK; intro K hK)
 | (apply hK; clear hK K)
 | (apply GC_block)
 | (apply GC_region)
 | (apply GL_nil)
 | (apply thenG_normal)
 | (apply GC_skip)
 | (apply GC_if_false; eq_refl)
 | (apply GL_on; eq_refl; eq_refl)
 | (apply G_pv; eq_refl; first | exact trivial | omega)
 | (apply G_rd; eq_refl; (first | (apply Rd.own; (repeat first | exact In.here | apply In.there | apply In.skip); infer_instance) | (apply Rd.old; (repeat first | exact In.here | apply In.there | apply In.skip); assumption) | (apply Rd.oldR; (repeat first | exact In.here | apply In.there | apply In.skip); assumption) | exact Rd.nil | assumption); (case ih => infer_instance); omega; omega; eq_refl)
 | (apply G_cmpF; eq_refl; eq_refl; omega)
 | (apply G_ix; eq_refl; eq_refl; (first | (apply Rd.own; (repeat first | exact In.here | apply In.there | apply In.skip); infer_instance) | (apply Rd.old; (repeat first | exact In.here | apply In.there | apply In.skip); assumption) | (apply Rd.oldR; (repeat first | exact In.here | apply In.there | apply In.skip); assumption) | exact Rd.nil | assumption); (first | eq_refl | omega); omega; omega))
        have hb := only_ok R hO hml G hs hh
        have hol : (out.length : Int) = 1 + ((q + 1 : Nat) : Int) * c.max := G.len
        have l3 := R.nAnd
        have hAnd := H.at_.ands
        have hLat := H.at_.latches
        generalize cnfT md (runS c q) = β at *
        have hLi : ∀ (k : Nat) (l : Int), k < q + 1 → defR c l → ∀ Γ, In Γ (.old w none_) → ∀ w', Mem w' Γ → CVN Try.prog 19 [.agg (ccells c h).toArray, nu l, nu (k : Int)] w' fun v N => N = [] ∧ v = .tuple #[nu (atM c.max l (k : Int)), nu 0] := fun k l hk g Γ hi w' M => by
          have := LitP16_cv (l := l) (t := (k : Int)) (H.chg (hi.old M)) (by omega)
          have hle : ((k : Int) + 1) * c.max ≤ ((q + 1 : Nat) : Int) * c.max := Int.mul_le_mul_of_nonneg_right (by omega) m0
          have e : ltE c l (k : Int) = 0 := by
            unfold defR at g
            rw [ltE_in he (by omega)]
            exact ftE_ok he (by omega) (by omega)
          rwa [ltM_ok e, e] at this
        rename_i b3 b7 b9
        refine GC_loopK [1, 2, 3, 11, 14] (fun s : Nat × Bool => [(16, .bool s.2), (17, nu s.1)]) (fun _ => [.vec booc 1 4 A2 k2 out, .box b3 29 (ccells c h), .old w none_]) (fun s => s.1 ≤ q + 1 ∧ s.2 = (!gt md 0 && agK c out md s.1)) (fun s => q + 1 - s.1) (0, !gt md 0) (by repeat first | exact Pick.nil | (apply Pick.cons; eq_refl)) (by repeat first | exact trivial | refine ⟨rfl, ?_⟩) (by repeat first | exact Wk.nil | exact Wk.refl | (apply Wk.cons; (focus ((repeat first | exact Rem.here | apply Rem.there | apply Rem.skip); done))) | apply Wk.nilv | apply Wk.last | apply Wk.drop) ⟨Nat.zero_le _, (Bool.and_true _).symm⟩ ?_
        rintro ⟨k, s⟩ ⟨hk, hsI⟩
        dsimp only at hk hsI ⊢
        rcases Nat.lt_or_ge k (q + 1) with hlt | hge
        · repeat' (first
 | (apply GC_seqK; intro K hK)
 | (apply hK; clear hK K)
 | (apply GC_block)
 | (apply GC_region)
 | (apply GL_nil)
 | (apply thenG_normal)
 | (apply GC_skip)
 | (apply GC_if_true; eq_refl)
 | (apply GL_on; eq_refl; eq_refl)
 | (apply G_pv; eq_refl; first | exact trivial | omega)
 | (apply G_field; eq_refl)
 | (apply G_ld; eq_refl; (repeat first | exact In.here | apply In.there | apply In.skip); eq_refl)
 | (apply G_cmpT; eq_refl; eq_refl; omega)
 | (apply G_len; eq_refl))
          refine GC_loopK [1, 2, 3, 11, 14, 17, 102, 103] (fun s : Nat × Bool => [(16, .bool s.2), (104, nu s.1)]) (fun _ => [.vec booc 1 4 A2 k2 out, .box b3 29 (ccells c h), .old w none_]) (fun s => s.1 ≤ c.ands.length ∧ s.2 = ((!gt md 0 && agK c out md k) && agA c out md k s.1)) (fun s => c.ands.length - s.1) (0, s) (by repeat first | exact Pick.nil | (apply Pick.cons; eq_refl)) (by repeat first | exact trivial | refine ⟨rfl, ?_⟩) (by repeat first | exact Wk.nil | exact Wk.refl | (apply Wk.cons; (focus ((repeat first | exact Rem.here | apply Rem.there | apply Rem.skip); done))) | apply Wk.nilv | apply Wk.last | apply Wk.drop) ⟨Nat.zero_le _, by rw [hsI]; exact (Bool.and_true _).symm⟩ ?_
          rintro ⟨i, s2⟩ ⟨hi, hsJ⟩
          dsimp only at hi hsJ ⊢
          rcases Nat.lt_or_ge i c.ands.length with hlt2 | hge2
          · have g1 := (R.gate (gt_mem (l := c.ands) (i := (i : Int)) (by omega) (by omega))).1
            obtain ⟨u1, u2, u3⟩ := at_def (k := k) g1 (by omega) hl
            obtain ⟨v1, v2, v3⟩ := at_def (k := k) g1 (by omega) hol
            have hli := hLi k _ hlt g1
            have hsu := agA_succ (c := c) (out := out) (md := md) k i
            rw [← u3, ← v3] at hsu
            clear u3 v3
            generalize atM c.max (gt c.ands (i : Int)).1 (k : Int) = y at *
            cases s2
            · repeat' (first
 | (apply G_call; eq_refl; eq_refl; (apply hli; (repeat first | exact In.here | apply In.there | apply In.skip)); rintro _ _ ⟨rfl, rfl⟩)
 | (apply GC_seqK; intro K hK)
 | (apply hK; clear hK K)
 | (apply GC_block)
 | (apply GC_region)
 | (apply GL_nil)
 | (apply thenG_normal)
 | (apply blockG_normal)
 | (apply GC_skip)
 | (apply GC_if_true; eq_refl)
 | (apply GC_if_false; eq_refl)
 | (apply GL_on; eq_refl; eq_refl)
 | (refine GC_draws (id := 25) [.q 0, .q 1, .q 2, .q 3, .q 4, .q 5, .q 6, .q 7, .q 8, .q 9, .q 10, .q 11, .q 12, .q 13, .q 14] mixed (by kernel_rfl) (by kernel_rfl) ?_)
 | (apply GS_nil)
 | (apply GS_qon; eq_refl; eq_refl; eq_refl; eq_refl)
 | (apply GS_qoff; eq_refl; eq_refl; eq_refl; eq_refl)
 | (apply G_pv; eq_refl; first | exact trivial | omega)
 | (apply G_field; eq_refl)
 | (apply G_ld; eq_refl; (repeat first | exact In.here | apply In.there | apply In.skip); eq_refl)
 | (apply G_ldW; eq_refl; (repeat first | exact In.here | apply In.there | apply In.skip); eq_refl)
 | (apply G_rdW; eq_refl; (first | (apply Rd.own; (repeat first | exact In.here | apply In.there | apply In.skip); infer_instance) | (apply Rd.old; (repeat first | exact In.here | apply In.there | apply In.skip); assumption) | (apply Rd.oldR; (repeat first | exact In.here | apply In.there | apply In.skip); assumption) | exact Rd.nil | assumption); infer_instance; (case ih => infer_instance); omega; omega)
 | (apply G_cmpT; eq_refl; eq_refl; omega)
 | (apply G_cmpF; eq_refl; eq_refl; omega)
 | (apply G_ix; eq_refl; eq_refl; (first | (apply Rd.own; (repeat first | exact In.here | apply In.there | apply In.skip); infer_instance) | (apply Rd.old; (repeat first | exact In.here | apply In.there | apply In.skip); assumption) | (apply Rd.oldR; (repeat first | exact In.here | apply In.there | apply In.skip); assumption) | exact Rd.nil | assumption); (first | eq_refl | omega); omega; omega)
 | (apply G_alloc; eq_refl; intro _)
 | (apply G_stW; (first | exact wr_p | kernel_rfl); eq_refl; eq_refl; eq_refl; eq_refl; (repeat first | exact Upd.here | apply Upd.there | apply Upd.skip); eq_refl))
              exact ⟨(i + 1, false), (by repeat first | exact trivial | refine ⟨rfl, ?_⟩), (by repeat first | exact Wk.nil | exact Wk.refl | (apply Wk.cons; (focus ((repeat first | exact Rem.here | apply Rem.there | apply Rem.skip); done))) | apply Wk.nilv | apply Wk.last | apply Wk.drop), ⟨hlt2, by dsimp only; rw [hsu, ← Bool.and_assoc, ← hsJ]; rfl⟩, by dsimp only; omega⟩
            · repeat' (first
 | (apply G_call; eq_refl; eq_refl; (apply hli; (repeat first | exact In.here | apply In.there | apply In.skip)); rintro _ _ ⟨rfl, rfl⟩)
 | (apply GC_seqK; intro K hK)
 | (apply hK; clear hK K)
 | (apply GC_block)
 | (apply GC_region)
 | (apply GL_nil)
 | (apply thenG_normal)
 | (apply blockG_normal)
 | (apply GC_skip)
 | (apply GC_if_true; eq_refl)
 | (apply GC_if_false; eq_refl)
 | (apply GL_on; eq_refl; eq_refl)
 | (refine GC_draws (id := 25) [.q 0, .q 1, .q 2, .q 3, .q 4, .q 5, .q 6, .q 7, .q 8, .q 9, .q 10, .q 11, .q 12, .q 13, .q 14] mixed (by kernel_rfl) (by kernel_rfl) ?_)
 | (apply GS_nil)
 | (apply GS_qon; eq_refl; eq_refl; eq_refl; eq_refl)
 | (apply G_pv; eq_refl; first | exact trivial | omega)
 | (apply G_field; eq_refl)
 | (apply G_ld; eq_refl; (repeat first | exact In.here | apply In.there | apply In.skip); eq_refl)
 | (apply G_ldW; eq_refl; (repeat first | exact In.here | apply In.there | apply In.skip); eq_refl)
 | (apply G_rd; eq_refl; (first | (apply Rd.own; (repeat first | exact In.here | apply In.there | apply In.skip); infer_instance) | (apply Rd.old; (repeat first | exact In.here | apply In.there | apply In.skip); assumption) | (apply Rd.oldR; (repeat first | exact In.here | apply In.there | apply In.skip); assumption) | exact Rd.nil | assumption); (case ih => infer_instance); omega; omega; eq_refl)
 | (apply G_rdW; eq_refl; (first | (apply Rd.own; (repeat first | exact In.here | apply In.there | apply In.skip); infer_instance) | (apply Rd.old; (repeat first | exact In.here | apply In.there | apply In.skip); assumption) | (apply Rd.oldR; (repeat first | exact In.here | apply In.there | apply In.skip); assumption) | exact Rd.nil | assumption); infer_instance; (case ih => infer_instance); omega; omega)
 | (apply G_cmpT; eq_refl; eq_refl; omega)
 | (apply G_cmpF; eq_refl; eq_refl; omega)
 | (apply G_ix; eq_refl; eq_refl; (first | (apply Rd.own; (repeat first | exact In.here | apply In.there | apply In.skip); infer_instance) | (apply Rd.old; (repeat first | exact In.here | apply In.there | apply In.skip); assumption) | (apply Rd.oldR; (repeat first | exact In.here | apply In.there | apply In.skip); assumption) | exact Rd.nil | assumption); (first | eq_refl | omega); omega; omega)
 | (apply G_eqB; eq_refl; eq_refl)
 | (apply G_alloc; eq_refl; intro _)
 | (apply G_stW; (first | exact wr_p | kernel_rfl); eq_refl; eq_refl; eq_refl; eq_refl; (repeat first | exact Upd.here | apply Upd.there | apply Upd.skip); eq_refl))
              exact ⟨(i + 1, gt out (y - 1) == gt md (y - 1)), (by repeat first | exact trivial | refine ⟨rfl, ?_⟩), (by repeat first | exact Wk.nil | exact Wk.refl | (apply Wk.cons; (focus ((repeat first | exact Rem.here | apply Rem.there | apply Rem.skip); done))) | apply Wk.nilv | apply Wk.last | apply Wk.drop), ⟨hlt2, by dsimp only; rw [hsu, ← Bool.and_assoc, ← hsJ]; rfl⟩, by dsimp only; omega⟩
          · obtain rfl : i = c.ands.length := by omega
            repeat' (first
 | (apply GC_seqK; intro K hK)
 | (apply hK; clear hK K)
 | (clear hK K; apply hK; clear hK K)
 | (apply GC_block)
 | (apply GC_region)
 | (apply GL_nil)
 | (apply thenG_normal)
 | (apply thenG_exit)
 | (apply blockG_hit)
 | (apply GC_exit)
 | (apply GC_if_false; eq_refl)
 | (apply GL_on; eq_refl; eq_refl)
 | (apply G_pv; eq_refl; first | exact trivial | omega)
 | (apply G_field; eq_refl)
 | (apply G_ld; eq_refl; (repeat first | exact In.here | apply In.there | apply In.skip); eq_refl)
 | (apply G_cmpF; eq_refl; eq_refl; omega)
 | (apply G_len; eq_refl))
            refine GC_loopK [1, 2, 3, 11, 14, 17, 138, 139] (fun s : Nat × Bool => [(16, .bool s.2), (140, nu s.1)]) (fun _ => [.vec booc 1 4 A2 k2 out, .box b3 29 (ccells c h), .old w none_]) (fun s => s.1 ≤ c.latches.length ∧ s.2 = (((!gt md 0 && agK c out md k) && agA c out md k c.ands.length) && agL c out md k s.1)) (fun s => c.latches.length - s.1) (0, s2) (by repeat first | exact Pick.nil | (apply Pick.cons; eq_refl)) (by repeat first | exact trivial | refine ⟨rfl, ?_⟩) (by repeat first | exact Wk.nil | exact Wk.refl | (apply Wk.cons; (focus ((repeat first | exact Rem.here | apply Rem.there | apply Rem.skip); done))) | apply Wk.nilv | apply Wk.last | apply Wk.drop) ⟨Nat.zero_le _, by rw [hsJ]; exact (Bool.and_true _).symm⟩ ?_
            rintro ⟨j, s3⟩ ⟨hj, hsK⟩
            dsimp only at hj hsK ⊢
            rcases Nat.lt_or_ge j c.latches.length with hlt3 | hge3
            · have g1 := (R.lat (gt_mem (l := c.latches) (i := (j : Int)) (by omega) (by omega))).1
              obtain ⟨u1, u2, u3⟩ := at_def (k := k) g1 (by omega) hl
              obtain ⟨v1, v2, v3⟩ := at_def (k := k) g1 (by omega) hol
              have hli := hLi k _ hlt g1
              have hsu := agL_succ (c := c) (out := out) (md := md) k j
              rw [← u3, ← v3] at hsu
              clear u3 v3
              generalize atM c.max (gt c.latches (j : Int)).1 (k : Int) = y at *
              cases s3
              · repeat' (first
 | (apply G_call; eq_refl; eq_refl; (apply hli; (repeat first | exact In.here | apply In.there | apply In.skip)); rintro _ _ ⟨rfl, rfl⟩)
 | (apply GC_seqK; intro K hK)
 | (apply hK; clear hK K)
 | (apply GC_block)
 | (apply GC_region)
 | (apply GL_nil)
 | (apply thenG_normal)
 | (apply blockG_normal)
 | (apply GC_skip)
 | (apply GC_if_true; eq_refl)
 | (apply GC_if_false; eq_refl)
 | (apply GL_on; eq_refl; eq_refl)
 | (refine GC_draws (id := 33) [.q 0, .q 1, .q 2, .q 3, .q 4, .q 5, .q 6, .q 7, .q 8, .q 9, .q 10, .q 11, .q 12, .q 13, .q 14] mixed (by kernel_rfl) (by kernel_rfl) ?_)
 | (apply GS_nil)
 | (apply GS_qon; eq_refl; eq_refl; eq_refl; eq_refl)
 | (apply GS_qoff; eq_refl; eq_refl; eq_refl; eq_refl)
 | (apply G_pv; eq_refl; first | exact trivial | omega)
 | (apply G_field; eq_refl)
 | (apply G_ld; eq_refl; (repeat first | exact In.here | apply In.there | apply In.skip); eq_refl)
 | (apply G_ldW; eq_refl; (repeat first | exact In.here | apply In.there | apply In.skip); eq_refl)
 | (apply G_rdW; eq_refl; (first | (apply Rd.own; (repeat first | exact In.here | apply In.there | apply In.skip); infer_instance) | (apply Rd.old; (repeat first | exact In.here | apply In.there | apply In.skip); assumption) | (apply Rd.oldR; (repeat first | exact In.here | apply In.there | apply In.skip); assumption) | exact Rd.nil | assumption); infer_instance; (case ih => infer_instance); omega; omega)
 | (apply G_cmpT; eq_refl; eq_refl; omega)
 | (apply G_cmpF; eq_refl; eq_refl; omega)
 | (apply G_ix; eq_refl; eq_refl; (first | (apply Rd.own; (repeat first | exact In.here | apply In.there | apply In.skip); infer_instance) | (apply Rd.old; (repeat first | exact In.here | apply In.there | apply In.skip); assumption) | (apply Rd.oldR; (repeat first | exact In.here | apply In.there | apply In.skip); assumption) | exact Rd.nil | assumption); (first | eq_refl | omega); omega; omega)
 | (apply G_alloc; eq_refl; intro _)
 | (apply G_stW; (first | exact wr_p | kernel_rfl); eq_refl; eq_refl; eq_refl; eq_refl; (repeat first | exact Upd.here | apply Upd.there | apply Upd.skip); eq_refl))
                exact ⟨(j + 1, false), (by repeat first | exact trivial | refine ⟨rfl, ?_⟩), (by repeat first | exact Wk.nil | exact Wk.refl | (apply Wk.cons; (focus ((repeat first | exact Rem.here | apply Rem.there | apply Rem.skip); done))) | apply Wk.nilv | apply Wk.last | apply Wk.drop), ⟨hlt3, by dsimp only; rw [hsu, ← Bool.and_assoc, ← hsK]; rfl⟩, by dsimp only; omega⟩
              · repeat' (first
 | (apply G_call; eq_refl; eq_refl; (apply hli; (repeat first | exact In.here | apply In.there | apply In.skip)); rintro _ _ ⟨rfl, rfl⟩)
 | (apply GC_seqK; intro K hK)
 | (apply hK; clear hK K)
 | (apply GC_block)
 | (apply GC_region)
 | (apply GL_nil)
 | (apply thenG_normal)
 | (apply blockG_normal)
 | (apply GC_skip)
 | (apply GC_if_true; eq_refl)
 | (apply GC_if_false; eq_refl)
 | (apply GL_on; eq_refl; eq_refl)
 | (refine GC_draws (id := 33) [.q 0, .q 1, .q 2, .q 3, .q 4, .q 5, .q 6, .q 7, .q 8, .q 9, .q 10, .q 11, .q 12, .q 13, .q 14] mixed (by kernel_rfl) (by kernel_rfl) ?_)
 | (apply GS_nil)
 | (apply GS_qon; eq_refl; eq_refl; eq_refl; eq_refl)
 | (apply G_pv; eq_refl; first | exact trivial | omega)
 | (apply G_field; eq_refl)
 | (apply G_ld; eq_refl; (repeat first | exact In.here | apply In.there | apply In.skip); eq_refl)
 | (apply G_ldW; eq_refl; (repeat first | exact In.here | apply In.there | apply In.skip); eq_refl)
 | (apply G_rd; eq_refl; (first | (apply Rd.own; (repeat first | exact In.here | apply In.there | apply In.skip); infer_instance) | (apply Rd.old; (repeat first | exact In.here | apply In.there | apply In.skip); assumption) | (apply Rd.oldR; (repeat first | exact In.here | apply In.there | apply In.skip); assumption) | exact Rd.nil | assumption); (case ih => infer_instance); omega; omega; eq_refl)
 | (apply G_rdW; eq_refl; (first | (apply Rd.own; (repeat first | exact In.here | apply In.there | apply In.skip); infer_instance) | (apply Rd.old; (repeat first | exact In.here | apply In.there | apply In.skip); assumption) | (apply Rd.oldR; (repeat first | exact In.here | apply In.there | apply In.skip); assumption) | exact Rd.nil | assumption); infer_instance; (case ih => infer_instance); omega; omega)
 | (apply G_cmpT; eq_refl; eq_refl; omega)
 | (apply G_cmpF; eq_refl; eq_refl; omega)
 | (apply G_ix; eq_refl; eq_refl; (first | (apply Rd.own; (repeat first | exact In.here | apply In.there | apply In.skip); infer_instance) | (apply Rd.old; (repeat first | exact In.here | apply In.there | apply In.skip); assumption) | (apply Rd.oldR; (repeat first | exact In.here | apply In.there | apply In.skip); assumption) | exact Rd.nil | assumption); (first | eq_refl | omega); omega; omega)
 | (apply G_eqB; eq_refl; eq_refl)
 | (apply G_alloc; eq_refl; intro _)
 | (apply G_stW; (first | exact wr_p | kernel_rfl); eq_refl; eq_refl; eq_refl; eq_refl; (repeat first | exact Upd.here | apply Upd.there | apply Upd.skip); eq_refl))
                exact ⟨(j + 1, gt out (y - 1) == gt md (y - 1)), (by repeat first | exact trivial | refine ⟨rfl, ?_⟩), (by repeat first | exact Wk.nil | exact Wk.refl | (apply Wk.cons; (focus ((repeat first | exact Rem.here | apply Rem.there | apply Rem.skip); done))) | apply Wk.nilv | apply Wk.last | apply Wk.drop), ⟨hlt3, by dsimp only; rw [hsu, ← Bool.and_assoc, ← hsK]; rfl⟩, by dsimp only; omega⟩
            · obtain rfl : j = c.latches.length := by omega
              repeat' (first
 | (apply GC_seqK; intro K hK)
 | (apply hK; clear hK K)
 | (clear hK K; apply hK; clear hK K)
 | (apply GC_region)
 | (apply GL_nil)
 | (apply thenG_normal)
 | (apply thenG_exit)
 | (apply blockG_hit)
 | (apply blockG_normal)
 | (apply GC_exit)
 | (apply GC_if_false; eq_refl)
 | (apply GL_on; eq_refl; eq_refl)
 | (apply G_pv; eq_refl; first | exact trivial | omega)
 | (apply G_cmpF; eq_refl; eq_refl; omega))
              exact ⟨(k + 1, s3), (by repeat first | exact trivial | refine ⟨rfl, ?_⟩), (by repeat first | exact Wk.nil | exact Wk.refl | (apply Wk.cons; (focus ((repeat first | exact Rem.here | apply Rem.there | apply Rem.skip); done))) | apply Wk.nilv | apply Wk.last | apply Wk.drop), ⟨hlt, by dsimp only; rw [hsK, agK_succ]; simp only [Bool.and_assoc]⟩, by dsimp only; omega⟩
        · obtain rfl : k = q + 1 := by omega
          have hbs : β = s := hb.trans hsI.symm
          subst hbs
          repeat' (first
 | (apply GC_seqK; intro K hK)
 | (apply hK; clear hK K)
 | (clear hK K; apply hK; clear hK K)
 | (apply GC_region)
 | (apply GL_nil)
 | (apply thenG_normal)
 | (apply thenG_exit)
 | (apply blockG_hit)
 | (apply GC_ret)
 | (apply GC_exit)
 | (apply GC_if_false; eq_refl)
 | (apply retG1; eq_refl)
 | (apply GL_on; eq_refl; eq_refl)
 | (apply G_pv; eq_refl; first | exact trivial | omega)
 | (apply G_cmpF; eq_refl; eq_refl; omega)
 | (apply G_eqB; eq_refl; eq_refl))
          exact ⟨[], (by repeat first | exact Wk.nil | exact Wk.refl | (apply Wk.cons; (focus ((repeat first | exact Rem.here | apply Rem.there | apply Rem.skip); done))) | apply Wk.nilv | apply Wk.last | apply Wk.drop), rfl, by rw [beq_self_eq_true]⟩
    · rw [mt_6 hv hz] at hFo
      generalize rnV c ((q + 1 : Nat) : Int) = V at *
      generalize rnL c ((q + 1 : Nat) : Int) = m at *
      repeat' (first
 | (apply G_call; eq_refl; eq_refl; (exact fun w' _ => hco w'); rintro _ _ ⟨rfl, rfl⟩)
 | (apply G_call; eq_refl; eq_refl; (exact fun w' _ => hW w'); rintro _ _ ⟨rfl, rfl⟩)
 | (apply G_call; eq_refl; eq_refl; (apply hFo; (repeat first | exact In.here | apply In.there | apply In.skip)); rintro _ _ ⟨p1, A1, k1, rfl, e1, rfl⟩)
 | (apply G_call; eq_refl; eq_refl; (apply hTr; (repeat first | exact In.here | apply In.there | apply In.skip)); rintro _ _ ⟨t', a', b', q1, q2, q3, rfl, rfl⟩; have htl := (OfM.mk q1 q2 q3).len)
 | (apply GC_seqK; intro K hK)
 | (apply hK; clear hK K)
 | (apply GC_region)
 | (apply GL_nil)
 | (apply thenG_normal)
 | (apply thenG_ret)
 | (apply GC_ret)
 | (apply GC_skip)
 | (apply GC_if_true; eq_refl)
 | (apply GC_if_false; eq_refl)
 | (apply retG1; eq_refl)
 | (apply GL_on; eq_refl; eq_refl)
 | (apply GL_off; eq_refl; eq_refl)
 | (apply G_pv; eq_refl; first | exact trivial | omega)
 | (apply G_field; eq_refl)
 | (apply G_ld; eq_refl; (repeat first | exact In.here | apply In.there | apply In.skip); eq_refl)
 | (apply G_ldW; eq_refl; (repeat first | exact In.here | apply In.there | apply In.skip); eq_refl)
 | (apply G_cmpT; eq_refl; eq_refl; omega)
 | (apply G_cmpF; eq_refl; eq_refl; omega)
 | (apply G_len; eq_refl)
 | (apply G_alloc; eq_refl; intro _)
 | (apply G_box; eq_refl; eq_refl; intro _)
 | (apply G_stW; (first | exact wr_p | kernel_rfl); eq_refl; eq_refl; eq_refl; eq_refl; (repeat first | exact Upd.here | apply Upd.there | apply Upd.skip); eq_refl))
      exact ⟨[], (by repeat first | exact Wk.nil | exact Wk.refl | (apply Wk.cons; (focus ((repeat first | exact Rem.here | apply Rem.there | apply Rem.skip); done))) | apply Wk.nilv | apply Wk.last | apply Wk.drop), rfl, rfl⟩
  · rw [if_neg ht, if_neg ht, if_neg ht] at hTr
    generalize trE c n md = δ at *
    generalize rnV c n = V at *
    generalize rnL c n = m at *
    by_cases hz : rnE c n = 0
    · rw [hz] at hFo
      repeat' (first
 | (apply G_call; eq_refl; eq_refl; (exact fun w' _ => hco w'); rintro _ _ ⟨rfl, rfl⟩)
 | (apply G_call; eq_refl; eq_refl; (exact fun w' _ => hW w'); rintro _ _ ⟨rfl, rfl⟩)
 | (apply G_call; eq_refl; eq_refl; (apply hFo; (repeat first | exact In.here | apply In.there | apply In.skip)); rintro _ _ ⟨p1, A1, k1, rfl, e1, rfl⟩)
 | (apply G_call; eq_refl; eq_refl; (apply hTr; (repeat first | exact In.here | apply In.there | apply In.skip)); rintro _ _ ⟨t', a', b', q1, q2, q3, rfl, rfl⟩; have htl : t'.rows.length = 0 := by rw [map_len q2]; rfl)
 | (apply GC_seqK; intro K hK)
 | (apply hK; clear hK K)
 | (apply GC_region)
 | (apply GL_nil)
 | (apply thenG_normal)
 | (apply thenG_ret)
 | (apply GC_ret)
 | (apply GC_skip)
 | (apply GC_if_true; eq_refl)
 | (apply GC_if_false; eq_refl)
 | (apply retG1; eq_refl)
 | (apply GL_on; eq_refl; eq_refl)
 | (apply GL_off; eq_refl; eq_refl)
 | (apply G_pv; eq_refl; first | exact trivial | omega)
 | (apply G_field; eq_refl)
 | (apply G_ld; eq_refl; (repeat first | exact In.here | apply In.there | apply In.skip); eq_refl)
 | (apply G_ldW; eq_refl; (repeat first | exact In.here | apply In.there | apply In.skip); eq_refl)
 | (apply G_cmpT; eq_refl; eq_refl; omega)
 | (apply G_cmpF; eq_refl; eq_refl; omega)
 | (apply G_len; eq_refl)
 | (apply G_alloc; eq_refl; intro _)
 | (apply G_box; eq_refl; eq_refl; intro _)
 | (apply G_stW; (first | exact wr_p | kernel_rfl); eq_refl; eq_refl; eq_refl; eq_refl; (repeat first | exact Upd.here | apply Upd.there | apply Upd.skip); eq_refl))
      exact ⟨[], (by repeat first | exact Wk.nil | exact Wk.refl | (apply Wk.cons; (focus ((repeat first | exact Rem.here | apply Rem.there | apply Rem.skip); done))) | apply Wk.nilv | apply Wk.last | apply Wk.drop), rfl, rfl⟩
    · generalize rnE c n = ε at *
      repeat' (first
 | (apply G_call; eq_refl; eq_refl; (exact fun w' _ => hco w'); rintro _ _ ⟨rfl, rfl⟩)
 | (apply G_call; eq_refl; eq_refl; (exact fun w' _ => hW w'); rintro _ _ ⟨rfl, rfl⟩)
 | (apply G_call; eq_refl; eq_refl; (apply hFo; (repeat first | exact In.here | apply In.there | apply In.skip)); rintro _ _ ⟨p1, A1, k1, rfl, e1, rfl⟩)
 | (apply G_call; eq_refl; eq_refl; (apply hTr; (repeat first | exact In.here | apply In.there | apply In.skip)); rintro _ _ ⟨t', a', b', q1, q2, q3, rfl, rfl⟩; have htl : t'.rows.length = 0 := by rw [map_len q2]; rfl)
 | (apply GC_seqK; intro K hK)
 | (apply hK; clear hK K)
 | (apply GC_region)
 | (apply GL_nil)
 | (apply thenG_normal)
 | (apply thenG_ret)
 | (apply GC_ret)
 | (apply GC_skip)
 | (apply GC_if_true; eq_refl)
 | (apply GC_if_false; eq_refl)
 | (apply retG1; eq_refl)
 | (apply GL_on; eq_refl; eq_refl)
 | (apply GL_off; eq_refl; eq_refl)
 | (apply G_pv; eq_refl; first | exact trivial | omega)
 | (apply G_field; eq_refl)
 | (apply G_ld; eq_refl; (repeat first | exact In.here | apply In.there | apply In.skip); eq_refl)
 | (apply G_ldW; eq_refl; (repeat first | exact In.here | apply In.there | apply In.skip); eq_refl)
 | (apply G_cmpT; eq_refl; eq_refl; omega)
 | (apply G_cmpF; eq_refl; eq_refl; omega)
 | (apply G_len; eq_refl)
 | (apply G_alloc; eq_refl; intro _)
 | (apply G_box; eq_refl; eq_refl; intro _)
 | (apply G_stW; (first | exact wr_p | kernel_rfl); eq_refl; eq_refl; eq_refl; eq_refl; (repeat first | exact Upd.here | apply Upd.there | apply Upd.skip); eq_refl))
      exact ⟨[], (by repeat first | exact Wk.nil | exact Wk.refl | (apply Wk.cons; (focus ((repeat first | exact Rem.here | apply Rem.there | apply Rem.skip); done))) | apply Wk.nilv | apply Wk.last | apply Wk.drop), rfl, rfl⟩
end SC
end Go.Proofs.Ytbmngkdnebklpaa
end

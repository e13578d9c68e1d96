/- Texts of this seat, one behind the other: O22. -/
import Derived.Test.YtbmngkdnebklpaaW4
section
/- trestlelaw16: FramesHolds: the walk. -/
set_option linter.unusedVariables false
set_option linter.unusedSimpArgs false
namespace Go.Proofs.Ytbmngkdnebklpaa
namespace SC
open Go.Proofs
/-- The trace of a model, bound together. -/
theorem TrR.to {P : Program} {f : FuncId} {args : List Value} {w : World} {ini : List Bool} {rs : List (List Bool)} {lp ε : Int} (h : CVN P f args w (TrR ini rs lp ε)) : CVN P f args w fun v N => ∃ (t : Trc) (a b : Hdl), t.init = ini ∧ t.rows.map (·.2) = rs ∧ t.loop = lp ∧ v = .tuple #[.agg (tcs t a b).toArray, nu ε] ∧ N = [.any (bun (trcB t a b))] :=
  h.bun.mono fun v N ⟨N', ⟨ps, a, b, e1, e2, e3⟩, e4⟩ => ⟨⟨ini, ps, lp⟩, a, b, rfl, e2, rfl, e1, by rw [e4, e3]⟩
attribute [local irreducible] WC WL WX WS WO OX Does DoesU Enters CV Pure thenQ blockQ retQ Wants retQC GC GL GS GX RdB thenG blockG retG Rd At gt CVN CVM
attribute [local irreducible] bun
set_option maxRecDepth 100000
set_option maxHeartbeats 1600000 in
theorem framesHolds_cv {w : World} {c : Circ} {h js : Hd} {t : Trc} {a b : Hdl} (H : CirIn w c h js) (HT0 : TrcIn w t a b) :
    CVN Try.prog 4 [.agg (ccells c h).toArray, .agg (tcs t a b).toArray] w fun v N => N = [] ∧ v = .bool true := by
  obtain ⟨T, lp, rfl, hT⟩ : ∃ (T : Trc) (lp : Int), t = ⟨T.init, T.rows, lp⟩ ∧ strt T = T := ⟨strt t, t.loop, rfl, rfl⟩
  have hlp : T.loop = -1 := (congrArg Trc.loop hT).symm
  have HS : TrcIn w T a b := by have := HT0.strt; rwa [show strt ⟨T.init, T.rows, lp⟩ = strt T from rfl, hT] at this
  have hn0 := HS.lr
  show CVN Try.prog 4 [.agg (ccells c h).toArray, .agg #[.slice a.1 T.init.length a.2, .slice b.1 T.rows.length b.2, nu lp]] w _
  have hW : ∀ w', CVN Try.prog 8 [] w' _ := fun w' => works16_cv
  have hco : ∀ w', CVN Try.prog 9 [.agg (ccells c h).toArray, nu T.rows.length] w' _ := fun w' => cost_cv
  have hMo : ∀ Γ, In Γ (.old w none_) → ∀ w', Mem w' Γ → CVN Try.prog 14 [.agg (ccells c h).toArray, nu T.rows.length, .agg #[.slice a.1 T.init.length a.2, .slice b.1 T.rows.length b.2, nu (-1)]] w' _ := fun Γ hi w' M => by
    have := ModelF_cv (n := T.rows.length) (H.chg (hi.old M)) (HS.chg (hi.old M))
    unfold tcs at this
    rw [hlp, hT] at this
    exact this
  have hRn : ∀ Γ, In Γ (.old w none_) → ∀ w', Mem w' Γ → CVN Try.prog 15 [.agg (ccells c h).toArray, .agg #[.slice a.1 T.init.length a.2, .slice b.1 T.rows.length b.2, nu (-1)]] w' _ := fun Γ hi w' M => by
    have := run16_cv (H.chg (hi.old M)) (HS.chg (hi.old M))
    unfold tcs at this
    rw [hlp] at this
    exact this
  have hFo : ∀ Γ, In Γ (.old w none_) → ∀ w', Mem w' Γ → CVN Try.prog 10 [.agg (ccells c h).toArray, nu T.rows.length] w' (CnfB (rnV c T.rows.length) (rnL c T.rows.length) (rnE c T.rows.length)) := fun Γ ho w' M => CnfT.to (RunP16_cv (H.chg (ho.old M)))
  refine CVN.enter 89 [4] Try.func4 rfl rfl rfl (by decide) rfl ?_
  by_cases hc : 40 < ((T.rows.length : Nat) : Int) ∧ 30 < c.max
  · rw [decide_eq_true hc] at hco
    repeat' (first
 | (apply G_call; eq_refl; eq_refl; (exact fun w' _ => hco w'); rintro _ _ ⟨rfl, rfl⟩)
 | (apply G_call; eq_refl; eq_refl; (exact fun w' _ => hW w'); rintro _ _ ⟨rfl, rfl⟩)
 | (apply GC_seqK; intro K hK)
 | (apply hK; clear hK K)
 | (apply GC_region)
 | (apply GL_nil)
 | (apply thenG_normal)
 | (apply thenG_ret)
 | (apply GC_ret)
 | (apply GC_skip)
 | (apply GC_if_true; eq_refl)
 | (apply GC_if_false; eq_refl)
 | (apply retG1; eq_refl)
 | (apply GL_on; eq_refl; eq_refl)
 | (apply G_pv; eq_refl; first | exact trivial | omega)
 | (apply G_field; eq_refl)
 | (apply G_ld; eq_refl; (repeat first | exact In.here | apply In.there | apply In.skip); eq_refl)
 | (apply G_ldW; eq_refl; (repeat first | exact In.here | apply In.there | apply In.skip); eq_refl)
 | (apply G_len; eq_refl)
 | (apply G_box; eq_refl; eq_refl; intro _)
 | (apply G_st; (first | exact wr_p | kernel_rfl); eq_refl; eq_refl; eq_refl; eq_refl; (repeat first | exact Upd.here | apply Upd.there | apply Upd.skip); (first | decide | exact Nat.le_of_ble_eq_true rfl)))
    exact ⟨[], (by repeat first | exact Wk.nil | exact Wk.refl | (apply Wk.cons; (focus ((repeat first | exact Rem.here | apply Rem.there | apply Rem.skip); done))) | apply Wk.nilv | apply Wk.last | apply Wk.drop), rfl, rfl⟩
  rw [decide_eq_false hc] at hco
  by_cases hm : mtE c T.rows.length T = 0
  · obtain ⟨hv, _, hr, hs, hh⟩ := mtE_zero hm
    have hru := mt_run hm
    rw [hT] at hr hh hru
    obtain ⟨he, F⟩ := runE_zero hr
    have R := right_of H.at_ H.sane he
    have hMo2 : ∀ Γ, In Γ (.old w none_) → ∀ w', Mem w' Γ → CVN Try.prog 14 [.agg (ccells c h).toArray, nu T.rows.length, .agg #[.slice a.1 T.init.length a.2, .slice b.1 T.rows.length b.2, nu (-1)]] w' (MdR c T T.rows.length) := fun Γ hi w' M => (hMo Γ hi w' M).mono fun v N h9 => h9.elim (fun h8 => h8.2) fun h8 => absurd hm h8.1
    rw [hru] at hRn
    by_cases hz : rnE c T.rows.length = 0
    · obtain ⟨N, hN⟩ : ∃ N, T.rows.length = N + 1 := ⟨T.rows.length - 1, by have := F.pos; omega⟩
      have hgt : ∀ out, GoodM c T T.rows.length out → cnfT out (rnL c T.rows.length) = true := fun out G => by
        rw [rnL_ok hz, show (((T.rows.length : Nat) : Int) - 1).toNat = N by omega]
        exact good_true R (by rw [← hN]; exact G) hs (by rw [← hN]; exact hh)
      have hHo : ∀ Γ A D k kd ps out, GoodM c T T.rows.length out → In Γ (.any (bun (cnB ps A k))) → In Γ (.vec booc 1 4 D kd out) → ps.map (·.2) = rnL c T.rows.length → ∀ w', Mem w' Γ → CVN Try.prog 16 [.agg #[nu (rnV c T.rows.length), .slice A ps.length k], .slice D out.length kd] w' fun v N => N = [] ∧ ∃ i : Int, v = .tuple #[.bool true, nu i, nu 0] := fun Γ A D k kd ps out G h1 h2 e w' M => by
        have := holdsF (kd := kd) R hz (rnV_ok hz) G.len h1 (h2.row M) e M
        rwa [hgt out G] at this
      have hTr : ∀ Γ D kd out, GoodM c T T.rows.length out → In Γ (.old w none_) → In Γ (.vec booc 1 4 D kd out) → ∀ w', Mem w' Γ → CVN Try.prog 17 [.agg (ccells c h).toArray, nu T.rows.length, .slice D out.length kd] w' fun v N => ∃ (t : Trc) (a b : Hdl), TrcEq t T ∧ v = .tuple #[.agg (tcs t a b).toArray, nu 0] ∧ N = [.any (bun (trcB t a b))] := fun Γ D kd out G hi h2 w' M => by
        have := TrR.to (TraceP_cv (n := T.rows.length) (k2 := kd) (H.chg (hi.old M)) (h2.row M) (vec_len (h2.ok M)))
        have e0 := trE_ok hv G.len
        rw [if_pos e0, if_pos e0, if_pos e0, e0, good_init R (by rw [← hN]; exact G) F, show (((T.rows.length : Nat) : Int)).toNat = N + 1 by omega, good_rows R (by rw [← hN]; exact G) F hN] at this
        exact this.mono fun v N ⟨t, a, b, e1, e2, e3, e4, e5⟩ => ⟨t, a, b, ⟨e1, by rw [e3, hlp], e2⟩, e4, e5⟩
      have hSa : ∀ Γ t' a' b', TrcEq t' T → In Γ (.any (bun (trcB t' a' b'))) → In Γ (.old w none_) → ∀ w', Mem w' Γ → CVN Try.prog 18 [.agg (tcs t' a' b').toArray, .agg #[.slice a.1 T.init.length a.2, .slice b.1 T.rows.length b.2, nu (-1)]] w' _ := fun Γ t' a' b' E hi ho w' M => by
        have := sameTrace_cv (TrcIn.bun HS E hi M) (HS.chg (ho.old M)) E
        unfold tcs at this
        rw [hlp] at this
        exact this
      rw [hz] at hFo
      unfold MdR at hMo2
      unfold CnfB at hFo
      clear hgt hMo
      generalize rnV c T.rows.length = V at *
      generalize rnL c T.rows.length = m at *
      repeat' (first
 | (apply G_call; eq_refl; eq_refl; (exact fun w' _ => hco w'); rintro _ _ ⟨rfl, rfl⟩)
 | (apply G_call; eq_refl; eq_refl; (exact fun w' _ => hW w'); rintro _ _ ⟨rfl, rfl⟩)
 | (apply G_call; eq_refl; eq_refl; (apply hMo2; (repeat first | exact In.here | apply In.there | apply In.skip)); rintro _ _ ⟨out, A2, k2, rfl, G, rfl⟩)
 | (apply G_call; eq_refl; eq_refl; (apply hFo; (repeat first | exact In.here | apply In.there | apply In.skip)); rintro _ _ ⟨p1, A1, k1, rfl, e1, rfl⟩)
 | (apply G_call; eq_refl; eq_refl; (apply hHo; assumption; (repeat first | exact In.here | apply In.there | apply In.skip); (repeat first | exact In.here | apply In.there | apply In.skip); assumption); rintro _ _ ⟨rfl, i, rfl⟩)
 | (apply G_call; eq_refl; eq_refl; (apply hTr; assumption; (repeat first | exact In.here | apply In.there | apply In.skip); (repeat first | exact In.here | apply In.there | apply In.skip)); rintro _ _ ⟨t', a', b', E, rfl, rfl⟩)
 | (apply G_call; eq_refl; eq_refl; (apply hRn; (repeat first | exact In.here | apply In.there | apply In.skip)); rintro _ _ ⟨rfl, rfl⟩)
 | (apply G_call; eq_refl; eq_refl; (apply hSa; assumption; (repeat first | exact In.here | apply In.there | apply In.skip); (repeat first | exact In.here | apply In.there | apply In.skip)); rintro _ _ ⟨rfl, rfl⟩)
 | (apply GC_seqK; intro K hK)
 | (apply hK; clear hK K)
 | (apply GC_region)
 | (apply GL_nil)
 | (apply thenG_normal)
 | (apply GC_ret)
 | (apply GC_skip)
 | (apply GC_if_false; eq_refl)
 | (apply retG1; eq_refl)
 | (apply GL_on; eq_refl; eq_refl)
 | (apply G_pv; eq_refl; first | exact trivial | omega)
 | (apply G_field; eq_refl)
 | (apply G_ld; eq_refl; (repeat first | exact In.here | apply In.there | apply In.skip); eq_refl)
 | (apply G_ldW; eq_refl; (repeat first | exact In.here | apply In.there | apply In.skip); eq_refl)
 | (apply G_cmpT; eq_refl; eq_refl; omega)
 | (apply G_cmpF; eq_refl; eq_refl; omega)
 | (apply G_len; eq_refl)
 | (apply G_alloc; eq_refl; intro _)
 | (apply G_box; eq_refl; eq_refl; intro _)
 | (apply G_st; (first | exact wr_p | kernel_rfl); eq_refl; eq_refl; eq_refl; eq_refl; (repeat first | exact Upd.here | apply Upd.there | apply Upd.skip); (first | decide | exact Nat.le_of_ble_eq_true rfl))
 | (apply G_stW; (first | exact wr_p | kernel_rfl); eq_refl; eq_refl; eq_refl; eq_refl; (repeat first | exact Upd.here | apply Upd.there | apply Upd.skip); eq_refl))
      exact ⟨[], (by repeat first | exact Wk.nil | exact Wk.refl | (apply Wk.cons; (focus ((repeat first | exact Rem.here | apply Rem.there | apply Rem.skip); done))) | apply Wk.nilv | apply Wk.last | apply Wk.drop), rfl, rfl⟩
    · rw [mt_6 hv hz] at hFo
      unfold MdR at hMo2
      unfold CnfB at hFo
      clear hMo
      generalize rnV c T.rows.length = V at *
      generalize rnL c T.rows.length = m at *
      repeat' (first
 | (apply G_call; eq_refl; eq_refl; (exact fun w' _ => hco w'); rintro _ _ ⟨rfl, rfl⟩)
 | (apply G_call; eq_refl; eq_refl; (exact fun w' _ => hW w'); rintro _ _ ⟨rfl, rfl⟩)
 | (apply G_call; eq_refl; eq_refl; (apply hMo2; (repeat first | exact In.here | apply In.there | apply In.skip)); rintro _ _ ⟨out, A2, k2, rfl, G, rfl⟩)
 | (apply G_call; eq_refl; eq_refl; (apply hFo; (repeat first | exact In.here | apply In.there | apply In.skip)); rintro _ _ ⟨p1, A1, k1, rfl, e1, rfl⟩)
 | (apply GC_seqK; intro K hK)
 | (apply hK; clear hK K)
 | (apply GC_region)
 | (apply GL_nil)
 | (apply thenG_normal)
 | (apply thenG_ret)
 | (apply GC_ret)
 | (apply GC_skip)
 | (apply GC_if_true; eq_refl)
 | (apply GC_if_false; eq_refl)
 | (apply retG1; eq_refl)
 | (apply GL_on; eq_refl; eq_refl)
 | (apply G_pv; eq_refl; first | exact trivial | omega)
 | (apply G_field; eq_refl)
 | (apply G_ld; eq_refl; (repeat first | exact In.here | apply In.there | apply In.skip); eq_refl)
 | (apply G_ldW; eq_refl; (repeat first | exact In.here | apply In.there | apply In.skip); eq_refl)
 | (apply G_cmpT; eq_refl; eq_refl; omega)
 | (apply G_cmpF; eq_refl; eq_refl; omega)
 | (apply G_len; eq_refl)
 | (apply G_alloc; eq_refl; intro _)
 | (apply G_box; eq_refl; eq_refl; intro _)
 | (apply G_st; (first | exact wr_p | kernel_rfl); eq_refl; eq_refl; eq_refl; eq_refl; (repeat first | exact Upd.here | apply Upd.there | apply Upd.skip); (first | decide | exact Nat.le_of_ble_eq_true rfl))
 | (apply G_stW; (first | exact wr_p | kernel_rfl); eq_refl; eq_refl; eq_refl; eq_refl; (repeat first | exact Upd.here | apply Upd.there | apply Upd.skip); eq_refl))
      exact ⟨[], (by repeat first | exact Wk.nil | exact Wk.refl | (apply Wk.cons; (focus ((repeat first | exact Rem.here | apply Rem.there | apply Rem.skip); done))) | apply Wk.nilv | apply Wk.last | apply Wk.drop), rfl, rfl⟩
  · have hno := mt_no hm
    rw [hT] at hno
    have hMo2 : ∀ Γ, In Γ (.old w none_) → ∀ w', Mem w' Γ → CVN Try.prog 14 [.agg (ccells c h).toArray, nu T.rows.length, .agg #[.slice a.1 T.init.length a.2, .slice b.1 T.rows.length b.2, nu (-1)]] w' fun v N => v = .tuple #[.slice none 0 0, nu (mtE c T.rows.length T)] ∧ N = [] := fun Γ hi w' M => (hMo Γ hi w' M).mono fun v N h9 => h9.elim (fun h8 => absurd h8.1 hm) fun h8 => h8.2
    clear hMo
    by_cases h6 : mtE c T.rows.length T = 6
    · rw [h6] at hMo2
      repeat' (first
 | (apply G_call; eq_refl; eq_refl; (exact fun w' _ => hco w'); rintro _ _ ⟨rfl, rfl⟩)
 | (apply G_call; eq_refl; eq_refl; (exact fun w' _ => hW w'); rintro _ _ ⟨rfl, rfl⟩)
 | (apply G_call; eq_refl; eq_refl; (apply hMo2; (repeat first | exact In.here | apply In.there | apply In.skip)); rintro _ _ ⟨rfl, rfl⟩)
 | (apply GC_seqK; intro K hK)
 | (apply hK; clear hK K)
 | (apply GC_region)
 | (apply GL_nil)
 | (apply thenG_normal)
 | (apply thenG_ret)
 | (apply GC_ret)
 | (apply GC_skip)
 | (apply GC_if_true; eq_refl)
 | (apply GC_if_false; eq_refl)
 | (apply retG1; eq_refl)
 | (apply GL_on; eq_refl; eq_refl)
 | (apply GL_off; eq_refl; eq_refl)
 | (apply G_pv; eq_refl; first | exact trivial | omega)
 | (apply G_field; eq_refl)
 | (apply G_ld; eq_refl; (repeat first | exact In.here | apply In.there | apply In.skip); eq_refl)
 | (apply G_ldW; eq_refl; (repeat first | exact In.here | apply In.there | apply In.skip); eq_refl)
 | (apply G_cmpT; eq_refl; eq_refl; omega)
 | (apply G_len; eq_refl)
 | (apply G_box; eq_refl; eq_refl; intro _)
 | (apply G_st; (first | exact wr_p | kernel_rfl); eq_refl; eq_refl; eq_refl; eq_refl; (repeat first | exact Upd.here | apply Upd.there | apply Upd.skip); (first | decide | exact Nat.le_of_ble_eq_true rfl)))
      exact ⟨[], (by repeat first | exact Wk.nil | exact Wk.refl | (apply Wk.cons; (focus ((repeat first | exact Rem.here | apply Rem.there | apply Rem.skip); done))) | apply Wk.nilv | apply Wk.last | apply Wk.drop), rfl, rfl⟩
    · rw [hno.resolve_left h6] at hRn
      clear hno
      generalize mtE c T.rows.length T = ε at *
      repeat' (first
 | (apply G_call; eq_refl; eq_refl; (exact fun w' _ => hco w'); rintro _ _ ⟨rfl, rfl⟩)
 | (apply G_call; eq_refl; eq_refl; (exact fun w' _ => hW w'); rintro _ _ ⟨rfl, rfl⟩)
 | (apply G_call; eq_refl; eq_refl; (apply hMo2; (repeat first | exact In.here | apply In.there | apply In.skip)); rintro _ _ ⟨rfl, rfl⟩)
 | (apply G_call; eq_refl; eq_refl; (apply hRn; (repeat first | exact In.here | apply In.there | apply In.skip)); rintro _ _ ⟨rfl, rfl⟩)
 | (apply GC_seqK; intro K hK)
 | (apply hK; clear hK K)
 | (apply GC_region)
 | (apply GL_nil)
 | (apply thenG_normal)
 | (apply thenG_ret)
 | (apply GC_ret)
 | (apply GC_skip)
 | (apply GC_if_true; eq_refl)
 | (apply GC_if_false; eq_refl)
 | (apply retG1; eq_refl)
 | (apply GL_on; eq_refl; eq_refl)
 | (apply G_pv; eq_refl; first | exact trivial | omega)
 | (apply G_field; eq_refl)
 | (apply G_ld; eq_refl; (repeat first | exact In.here | apply In.there | apply In.skip); eq_refl)
 | (apply G_ldW; eq_refl; (repeat first | exact In.here | apply In.there | apply In.skip); eq_refl)
 | (apply G_cmpT; eq_refl; eq_refl; omega)
 | (apply G_cmpF; eq_refl; eq_refl; omega)
 | (apply G_len; eq_refl)
 | (apply G_box; eq_refl; eq_refl; intro _)
 | (apply G_st; (first | exact wr_p | kernel_rfl); eq_refl; eq_refl; eq_refl; eq_refl; (repeat first | exact Upd.here | apply Upd.there | apply Upd.skip); (first | decide | exact Nat.le_of_ble_eq_true rfl)))
      exact ⟨[], (by repeat first | exact Wk.nil | exact Wk.refl | (apply Wk.cons; (focus ((repeat first | exact Rem.here | apply Rem.there | apply Rem.skip); done))) | apply Wk.nilv | apply Wk.last | apply Wk.drop), rfl, rfl⟩
end SC
end Go.Proofs.Ytbmngkdnebklpaa
end

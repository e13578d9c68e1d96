/- Texts of this seat, one behind the other: Y1 O18 O19 Y2 Y3 Y4 Y5 Y6. -/
import Derived.Test.YtbmngkdnebklpaaGreatP5
section
/- trestleref16: Trace: the walk. -/
set_option linter.unusedVariables false
set_option linter.unusedSimpArgs false
namespace Go.Proofs.YtbmngkdnebklpaaGreat
namespace SC
open Go.Proofs
attribute [local irreducible] WC WL WX WS WO OX Does DoesU Enters CV Pure thenQ blockQ retQ Wants retQC GC GL GS GX RdB thenG blockG retG Rd At gt CVN CVM
set_option maxRecDepth 100000
set_option maxHeartbeats 1600000 in
theorem TraceR16_cv {w : World} {c : Circ} {h js : Hd} {n : Int} {S : Option Addr} {k2 : Nat} {md : List Bool} (H : CirIn w c h js) (hS : RowA w booc 1 S md) (hn : md.length ≤ 9223372036854775807) :
    CVN Tryz.prog 9 [.agg (ccells c h).toArray, nu n, .slice S md.length k2] w (TrR (if trE c n md = 0 then trI c md else []) (if trE c n md = 0 then trR c md n.toNat else []) (if trE c n md = 0 then -1 else 0) (trE c n md)) := by
  have hvr : ∀ Γ, In Γ (.old w none_) → ∀ w', Mem w' Γ → CVN Tryz.prog 23 [.agg (ccells c h).toArray, nu n] w' _ := fun Γ hi w' M => VarsR16_cv (H.chg (hi.old M))
  have hLat := H.at_.latches
  have hInp := H.at_.inputs
  refine CVN.enterC1 (t := 33) 96 6 7 Tryz.func9 rfl rfl rfl rfl ?_
  by_cases hz : vrE c n = 0
  · obtain ⟨he, n1, n2, n3⟩ := vrE_zero hz
    have R := right_of H.at_ H.sane he
    have m0 := R.m0
    have m1 := R.m1
    have l1 := R.nIn
    have l2 := R.nLat
    rw [hz, vrM_ok hz] at hvr
    by_cases hl : (md.length : Int) = 1 + n * c.max
    · rw [trE_ok hz hl, if_pos rfl, if_pos rfl, if_pos rfl]
      have hat : ∀ (k : Nat) (l : Int), (k : Int) < n → defR c l → ∀ Γ, ∀ w', Mem w' Γ → CVN Tryz.prog 24 [.agg (ccells c h).toArray, nu l, nu (k : Int)] w' fun v N => N = [] ∧ v = nu (atM c.max l (k : Int)) := fun k l hk g Γ w' M => by
        unfold defR at g
        obtain ⟨z0, z1⟩ := mul_le (by omega : 0 ≤ (k : Int)) (by omega : (k : Int) ≤ 600) m0 m1
        exact lit16_cv (h := h) (by omega) (by omega) z0 z1
      have fl1 : fillL (fun x : Tri => gt (cut c.max md 0) (x.1 / 2)) c.latches false 0 = List.replicate c.latches.length false := fillL_0
      repeat' (first
|(apply G_call;eq_refl;eq_refl;(apply hvr;(repeat first|exact In.here|apply In.there|apply In.skip));rintro _ _ ⟨rfl, rfl⟩)
|(apply G_make booc;eq_refl;eq_refl;eq_refl;omega;decide;intro b33)
|(apply GC_seqK;intro K hK)
|(apply hK;clear hK K)
|(apply GC_block)
|(apply GC_region)
|(apply GL_nil)
|(apply thenG_normal)
|(apply GC_skip)
|(apply GC_if_false;eq_refl)
|(apply GL_on;eq_refl;eq_refl)
|(apply G_pv;eq_refl;first|exact trivial|omega)
|(apply G_field;eq_refl)
|(apply G_ld;eq_refl;(repeat first|exact In.here|apply In.there|apply In.skip);eq_refl)
|(apply G_ldW;eq_refl;(repeat first|exact In.here|apply In.there|apply In.skip);eq_refl)
|(apply G_cmpF;eq_refl;eq_refl;omega)
|(apply G_len;eq_refl)
|(apply G_alloc;eq_refl;intro _)
|(apply G_box;eq_refl;eq_refl;intro _)
|(apply G_stW;(first|exact wr_p|kernel_rfl);eq_refl;eq_refl;eq_refl;eq_refl;(repeat first|exact Upd.here|apply Upd.there|apply Upd.skip);eq_refl)
|(apply GX_pure;apply build33_0_2 <;> eq_refl))
      rename_i b3 b6 b10
      refine GC_loopK [1, 2, 3, 6, 10] (fun s : Nat × List Bool => [(11, nu s.1)]) (fun s => [.vec booc 1 4 (some ⟨b33, 0, none⟩) c.latches.length s.2, .box b10 33 [.slice (some ⟨b33, 0, none⟩) c.latches.length c.latches.length, .slice none 0 0, nu (-1)], .box b6 33 [.slice none 0 0, .slice none 0 0, nu 0], .box b3 29 (ccells c h), .old w none_])
        (fun s => s.1 ≤ c.latches.length ∧ s.2 = fillL (fun x : Tri => gt (cut c.max md 0) (x.1 / 2)) c.latches false s.1) (fun s => c.latches.length - s.1) (0, List.replicate c.latches.length false) (by repeat first | exact Pick.nil | (apply Pick.cons; eq_refl)) (by repeat first | exact trivial | refine ⟨rfl, ?_⟩) (by repeat first | exact Wk.nil | exact Wk.refl | (apply Wk.cons; (focus ((repeat first | exact Rem.here | apply Rem.there | apply Rem.skip); done))) | apply Wk.nilv | apply Wk.last | apply Wk.drop) ⟨Nat.zero_le _, fl1.symm⟩ ?_
      rintro ⟨i, ini⟩ ⟨hi, hini⟩
      dsimp only at hi hini ⊢
      have hil : ini.length = c.latches.length := by rw [hini]; exact fillL_len hi
      rcases Nat.lt_or_ge i c.latches.length with hlt | hge
      · have g1 := (R.lat (gt_mem (l := c.latches) (i := (i : Int)) (by omega) (by omega))).1
        obtain ⟨q1, q2, q3⟩ := at_def (k := 0) g1 (by omega) hl
        have ha := hat 0 _ (by omega) g1
        have e5 := fillL_set (f := fun x : Tri => gt (cut c.max md 0) (x.1 / 2)) (z := false) hlt
        rw [← q3, ← hini] at e5
        rw [show ((0 : Nat) : Int) = 0 by omega] at q1 q2 e5 ha
        generalize atM c.max (gt c.latches (i : Int)).1 0 = y at *
        repeat' (first
|(apply G_call;eq_refl;eq_refl;(apply ha);rintro _ _ ⟨rfl, rfl⟩)
|(apply GC_seqK;intro K hK)
|(apply hK;clear hK K)
|(apply GC_block)
|(apply GC_region)
|(apply GL_nil)
|(apply thenG_normal)
|(apply blockG_normal)
|(apply GC_skip)
|(apply GC_if_true;eq_refl)
|(apply GL_on;eq_refl;eq_refl)
|(refine GC_draws (id := 10) [.q 0, .q 1, .q 2, .q 3, .q 4, .q 5, .q 6, .q 7, .q 8, .q 9, .q 10, .c 11, .q 12, .q 13, .q 14, .q 15, .c 16] mixed (by kernel_rfl) (by kernel_rfl) ?_)
|(apply GS_nil)
|(apply GS_qon;eq_refl;eq_refl;eq_refl;eq_refl)
|(apply GS_con;eq_refl;eq_refl;eq_refl;eq_refl)
|(apply G_pv;eq_refl;first|exact trivial|omega)
|(apply G_field;eq_refl)
|(apply G_fieldP;eq_refl)
|(apply G_ld;eq_refl;(repeat first|exact In.here|apply In.there|apply In.skip);eq_refl)
|(apply G_ldW;eq_refl;(repeat first|exact In.here|apply In.there|apply In.skip);eq_refl)
|(apply G_rd;eq_refl;(first|(apply Rd.own;(repeat first|exact In.here|apply In.there|apply In.skip);infer_instance)|(apply Rd.old;(repeat first|exact In.here|apply In.there|apply In.skip);assumption)|(apply Rd.oldR;(repeat first|exact In.here|apply In.there|apply In.skip);assumption)|exact Rd.nil|assumption);(case ih => infer_instance);omega;omega;eq_refl)
|(apply G_cmpT;eq_refl;eq_refl;omega)
|(apply G_len;eq_refl)
|(apply G_ix;eq_refl;eq_refl;(first|(apply Rd.own;(repeat first|exact In.here|apply In.there|apply In.skip);infer_instance)|(apply Rd.old;(repeat first|exact In.here|apply In.there|apply In.skip);assumption)|(apply Rd.oldR;(repeat first|exact In.here|apply In.there|apply In.skip);assumption)|exact Rd.nil|assumption);(first|eq_refl|omega);omega;omega)
|(apply G_stV;(first|exact wr_p|kernel_rfl);eq_refl;eq_refl;eq_refl;eq_refl;(repeat first|exact Upd.here|apply Upd.there|apply Upd.skip);infer_instance;infer_instance;eq_refl;omega;(try simp only [List.length_set, List.length_append, List.length_replicate]);omega))
        exact ⟨(i + 1, ini.set (i : Int).toNat (gt md (y - 1))), (by repeat first | exact trivial | refine ⟨rfl, ?_⟩), (by repeat first | exact Wk.nil | exact Wk.refl | (apply Wk.cons; (focus ((repeat first | exact Rem.here | apply Rem.there | apply Rem.skip); done))) | apply Wk.nilv | apply Wk.last | apply Wk.drop), ⟨hlt, e5⟩, by dsimp only; omega⟩
      · obtain rfl : i = c.latches.length := by omega
        rw [fillL_all (Nat.le_refl _)] at hini
        obtain rfl : ini = trI c md := hini
        repeat' (first
|(apply GC_seqK;intro K hK)
|(apply hK;clear hK K)
|(clear hK K;apply hK;clear hK K)
|(apply GC_block)
|(apply GC_region)
|(apply GL_nil)
|(apply thenG_normal)
|(apply thenG_exit)
|(apply blockG_hit)
|(apply GC_exit)
|(apply GC_if_false;eq_refl)
|(apply GL_on;eq_refl;eq_refl)
|(apply G_pv;eq_refl;first|exact trivial|omega)
|(apply G_field;eq_refl)
|(apply G_ld;eq_refl;(repeat first|exact In.here|apply In.there|apply In.skip);eq_refl)
|(apply G_cmpF;eq_refl;eq_refl;omega)
|(apply G_len;eq_refl))
        refine GC_loopK [1, 2, 3, 6, 10] (fun s : Nat × List (Hdl × List Bool) × Option Addr × Nat => [(12, nu s.1)]) (fun s => .box b10 33 [.slice (some ⟨b33, 0, none⟩) (trI c md).length c.latches.length, .slice s.2.2.1 s.2.1.length s.2.2.2, nu (-1)] :: .vec booc 1 4 (some ⟨b33, 0, none⟩) c.latches.length (trI c md) :: .vec encS 1 30 s.2.2.1 s.2.2.2 s.2.1 :: .box b6 33 [.slice none 0 0, .slice none 0 0, nu 0] :: .box b3 29 (ccells c h) :: .old w none_ :: fam rowE s.2.1)
          (fun s => (s.1 : Int) ≤ n ∧ s.2.1.map (·.2) = trR c md s.1) (fun s => n.toNat - s.1) (0, [], none, 0) (by repeat first | exact Pick.nil | (apply Pick.cons; eq_refl)) (by repeat first | exact trivial | refine ⟨rfl, ?_⟩) (by rw [hil]; exact (by repeat first | exact Wk.nil | exact Wk.refl | (apply Wk.cons; (focus ((repeat first | exact Rem.here | apply Rem.there | apply Rem.skip); done))) | apply Wk.nilv | apply Wk.last | apply Wk.drop)) ⟨by dsimp only; omega, rfl⟩ ?_
        rintro ⟨k, ps, B, kB⟩ ⟨hk, hps⟩
        dsimp only at hk hps ⊢
        have hpl : ps.length = k := by rw [map_len hps]; unfold trR; simp
        rcases Int.lt_or_le (k : Int) n with hlt | hge
        · have fl0 : fillL (fun l => gt (cut c.max md k) (l / 2)) c.inputs false 0 = List.replicate c.inputs.length false := fillL_0
          repeat' (first
|(apply G_make booc;eq_refl;eq_refl;eq_refl;omega;decide;intro b15)
|(apply GC_seqK;intro K hK)
|(apply hK;clear hK K)
|(apply GC_block)
|(apply GC_region)
|(apply GL_nil)
|(apply thenG_normal)
|(apply GC_skip)
|(apply GC_if_true;eq_refl)
|(apply GL_on;eq_refl;eq_refl)
|(apply G_pv;eq_refl;first|exact trivial|omega)
|(apply G_field;eq_refl)
|(apply G_ld;eq_refl;(repeat first|exact In.here|apply In.there|apply In.skip);eq_refl)
|(apply G_cmpT;eq_refl;eq_refl;omega)
|(apply G_len;eq_refl))
          refine GC_loopK [1, 2, 3, 6, 10, 12, 13] (fun s : Nat × List Bool => [(14, nu s.1)]) (fun s => .vec booc 1 4 (some ⟨b15, 0, none⟩) c.inputs.length s.2 :: .box b10 33 [.slice (some ⟨b33, 0, none⟩) (trI c md).length c.latches.length, .slice B ps.length kB, nu (-1)] :: .vec booc 1 4 (some ⟨b33, 0, none⟩) c.latches.length (trI c md) :: .vec encS 1 30 B kB ps :: .box b6 33 [.slice none 0 0, .slice none 0 0, nu 0] :: .box b3 29 (ccells c h) :: .old w none_ :: fam rowE ps)
            (fun s => s.1 ≤ c.inputs.length ∧ s.2 = fillL (fun l => gt (cut c.max md k) (l / 2)) c.inputs false s.1) (fun s => c.inputs.length - s.1) (0, List.replicate c.inputs.length false) (by repeat first | exact Pick.nil | (apply Pick.cons; eq_refl)) (by repeat first | exact trivial | refine ⟨rfl, ?_⟩) (by repeat first | exact Wk.nil | exact Wk.refl | (apply Wk.cons; (focus ((repeat first | exact Rem.here | apply Rem.there | apply Rem.skip); done))) | apply Wk.nilv | apply Wk.last | apply Wk.drop) ⟨Nat.zero_le _, fl0.symm⟩ ?_
          rintro ⟨i, row⟩ ⟨hi2, hrow⟩
          dsimp only at hi2 hrow ⊢
          have hrl : row.length = c.inputs.length := by rw [hrow]; exact fillL_len hi2
          rcases Nat.lt_or_ge i c.inputs.length with hlt2 | hge2
          · have g1 := R.inp (gt_mem (l := c.inputs) (i := (i : Int)) (by omega) (by omega))
            obtain ⟨q1, q2, q3⟩ := at_def (k := k) g1 hlt hl
            have ha := hat k _ hlt g1
            have e5 := fillL_set (f := fun l => gt (cut c.max md k) (l / 2)) (z := false) hlt2
            rw [← q3, ← hrow] at e5
            generalize atM c.max (gt c.inputs (i : Int)) (k : Int) = y at *
            repeat' (first
|(apply G_call;eq_refl;eq_refl;(apply ha);rintro _ _ ⟨rfl, rfl⟩)
|(apply GC_seqK;intro K hK)
|(apply hK;clear hK K)
|(apply GC_block)
|(apply GC_region)
|(apply GL_nil)
|(apply thenG_normal)
|(apply blockG_normal)
|(apply GC_skip)
|(apply GC_if_true;eq_refl)
|(apply GL_on;eq_refl;eq_refl)
|(refine GC_draws (id := 18) [.q 0, .q 1, .q 2, .q 3, .q 4, .q 5, .q 6, .q 7, .q 8, .q 9, .c 10, .q 11, .q 12, .q 13, .q 14, .c 15] mixed (by kernel_rfl) (by kernel_rfl) ?_)
|(apply GS_nil)
|(apply GS_qon;eq_refl;eq_refl;eq_refl;eq_refl)
|(apply GS_con;eq_refl;eq_refl;eq_refl;eq_refl)
|(apply G_pv;eq_refl;first|exact trivial|omega)
|(apply G_field;eq_refl)
|(apply G_ld;eq_refl;(repeat first|exact In.here|apply In.there|apply In.skip);eq_refl)
|(apply G_ldW;eq_refl;(repeat first|exact In.here|apply In.there|apply In.skip);eq_refl)
|(apply G_rd;eq_refl;(first|(apply Rd.own;(repeat first|exact In.here|apply In.there|apply In.skip);infer_instance)|(apply Rd.old;(repeat first|exact In.here|apply In.there|apply In.skip);assumption)|(apply Rd.oldR;(repeat first|exact In.here|apply In.there|apply In.skip);assumption)|exact Rd.nil|assumption);(case ih => infer_instance);omega;omega;eq_refl)
|(apply G_cmpT;eq_refl;eq_refl;omega)
|(apply G_len;eq_refl)
|(apply G_ix;eq_refl;eq_refl;(first|(apply Rd.own;(repeat first|exact In.here|apply In.there|apply In.skip);infer_instance)|(apply Rd.old;(repeat first|exact In.here|apply In.there|apply In.skip);assumption)|(apply Rd.oldR;(repeat first|exact In.here|apply In.there|apply In.skip);assumption)|exact Rd.nil|assumption);(first|eq_refl|omega);omega;omega)
|(apply G_stV;(first|exact wr_p|kernel_rfl);eq_refl;eq_refl;eq_refl;eq_refl;(repeat first|exact Upd.here|apply Upd.there|apply Upd.skip);infer_instance;infer_instance;eq_refl;omega;(try simp only [List.length_set, List.length_append, List.length_replicate]);omega))
            refine ⟨(i + 1, row.set (i : Int).toNat (gt md (y - 1))), (by repeat first | exact trivial | refine ⟨rfl, ?_⟩), (by repeat first | exact Wk.nil | exact Wk.refl | (apply Wk.cons; (focus ((repeat first | exact Rem.here | apply Rem.there | apply Rem.skip); done))) | apply Wk.nilv | apply Wk.last | apply Wk.drop), ⟨hlt2, e5⟩, by dsimp only; omega⟩
          · obtain rfl : i = c.inputs.length := by omega
            rw [fillL_all (Nat.le_refl _)] at hrow
            obtain rfl : row = trW c md k := hrow
            have hD : Dec encS [.slice (some ⟨b15, 0, none⟩) c.inputs.length c.inputs.length] [((some ⟨b15, 0, none⟩, c.inputs.length), trW c md k)] := by
              have := Dec.one (enc := encS) (((some ⟨b15, 0, none⟩, c.inputs.length), trW c md k) : Hdl × List Bool)
              unfold encS at this
              dsimp only at this
              rwa [hrl] at this
            repeat' (first
|(apply G_app;(first|exact wr_p|kernel_rfl);eq_refl;eq_refl;(intro A c;(repeat first|exact Upd.here|apply Upd.there|apply Upd.skip));infer_instance;(repeat first|exact In.here|apply In.there|apply In.skip);exact hD;eq_refl;eq_refl;eq_refl;(simp only [List.length_cons, List.length_nil];omega);decide;intro A14 k14)
|(apply GC_seqK;intro K hK)
|(apply hK;clear hK K)
|(clear hK K;apply hK;clear hK K)
|(apply GC_region)
|(apply GL_nil)
|(apply thenG_normal)
|(apply thenG_exit)
|(apply blockG_hit)
|(apply blockG_normal)
|(apply GC_exit)
|(apply GC_if_false;eq_refl)
|(apply GL_on;eq_refl;eq_refl)
|(apply G_pv;eq_refl;first|exact trivial|omega)
|(apply G_field;eq_refl)
|(apply G_ld;eq_refl;(repeat first|exact In.here|apply In.there|apply In.skip);eq_refl)
|(apply G_cmpF;eq_refl;eq_refl;omega)
|(apply G_len;eq_refl)
|(apply G_st;(first|exact wr_p|kernel_rfl);eq_refl;eq_refl;eq_refl;eq_refl;(repeat first|exact Upd.here|apply Upd.there|apply Upd.skip);(first|decide|exact Nat.le_of_ble_eq_true rfl))
|(apply G_new (fun b => .slice (some ⟨b, 0, none⟩) 1 1);eq_refl;(intro _;apply buildS31_1 <;> eq_refl);intro _))
            refine ⟨(k + 1, ps ++ [((some ⟨b15, 0, none⟩, c.inputs.length), trW c md k)], A14, k14), (by repeat first | exact trivial | refine ⟨rfl, ?_⟩), ?_, ⟨by dsimp only; omega, ?_⟩, by dsimp only; omega⟩
            · dsimp only
              rw [fam_snoc]
              exact (by repeat first | exact Wk.nil | exact Wk.refl | (apply Wk.cons; (focus ((repeat first | exact Rem.here | apply Rem.there | apply Rem.skip); done))) | apply Wk.nilv | apply Wk.last | apply Wk.drop)
            · dsimp only
              rw [List.map_append, hps, trR_succ]
              rfl
        · obtain rfl : n = (k : Int) := by omega
          repeat' (first
|(apply GC_seqK;intro K hK)
|(apply hK;clear hK K)
|(clear hK K;apply hK;clear hK K)
|(apply GC_region)
|(apply GL_nil)
|(apply thenG_normal)
|(apply thenG_exit)
|(apply blockG_hit)
|(apply GC_ret)
|(apply GC_exit)
|(apply GC_if_false;eq_refl)
|(apply retGC1r;eq_refl;(repeat first|exact In.here|apply In.there|apply In.skip);eq_refl;eq_refl)
|(apply GL_on;eq_refl;eq_refl)
|(apply G_pv;eq_refl;first|exact trivial|omega)
|(apply G_ldW;eq_refl;(repeat first|exact In.here|apply In.there|apply In.skip);eq_refl)
|(apply G_cmpF;eq_refl;eq_refl;omega)
|(apply G_stW;(first|exact wr_p|kernel_rfl);eq_refl;eq_refl;eq_refl;eq_refl;(repeat first|exact Upd.here|apply Upd.there|apply Upd.skip);eq_refl))
          refine ⟨_, ?_, ps, (some ⟨b33, 0, none⟩, c.latches.length), (B, kB), rfl, hps, rfl⟩
          exact (by repeat first | exact Wk.nil | exact Wk.refl | (apply Wk.cons; (focus ((repeat first | exact Rem.here | apply Rem.there | apply Rem.skip); done))) | apply Wk.nilv | apply Wk.last | apply Wk.drop)
    · have e0 := trE_len hz hl
      have e1 : trE c n md ≠ 0 := by rw [e0]; decide
      rw [if_neg e1, if_neg e1, if_neg e1, e0]
      repeat' (first
|(apply G_call;eq_refl;eq_refl;(apply hvr;(repeat first|exact In.here|apply In.there|apply In.skip));rintro _ _ ⟨rfl, rfl⟩)
|(apply GC_seqK;intro K hK)
|(apply hK;clear hK K)
|(apply GC_region)
|(apply GL_nil)
|(apply thenG_normal)
|(apply thenG_ret)
|(apply GC_ret)
|(apply GC_skip)
|(apply GC_if_true;eq_refl)
|(apply GC_if_false;eq_refl)
|(apply retGC1r;eq_refl;(repeat first|exact In.here|apply In.there|apply In.skip);eq_refl;eq_refl)
|(apply GL_on;eq_refl;eq_refl)
|(apply G_pv;eq_refl;first|exact trivial|omega)
|(apply G_ldW;eq_refl;(repeat first|exact In.here|apply In.there|apply In.skip);eq_refl)
|(apply G_cmpT;eq_refl;eq_refl;omega)
|(apply G_cmpF;eq_refl;eq_refl;omega)
|(apply G_len;eq_refl)
|(apply G_alloc;eq_refl;intro _)
|(apply G_box;eq_refl;eq_refl;intro _)
|(apply G_stW;(first|exact wr_p|kernel_rfl);eq_refl;eq_refl;eq_refl;eq_refl;(repeat first|exact Upd.here|apply Upd.there|apply Upd.skip);eq_refl)
|(apply GX_pure;apply build33_))
      exact ⟨_, (by repeat first | exact Wk.nil | exact Wk.refl | (apply Wk.cons; (focus ((repeat first | exact Rem.here | apply Rem.there | apply Rem.skip); done))) | apply Wk.nilv | apply Wk.last | apply Wk.drop), [], (none, 0), (none, 0), rfl, rfl, rfl⟩
  · have e0 := trE_vr (md := md) hz
    have e1 : trE c n md ≠ 0 := by rw [e0]; exact hz
    rw [if_neg e1, if_neg e1, if_neg e1, e0]
    rw [vrM_no hz] at hvr
    generalize vrE c n = ε at *
    repeat' (first
|(apply G_call;eq_refl;eq_refl;(apply hvr;(repeat first|exact In.here|apply In.there|apply In.skip));rintro _ _ ⟨rfl, rfl⟩)
|(apply GC_seqK;intro K hK)
|(apply hK;clear hK K)
|(apply GC_region)
|(apply GL_nil)
|(apply thenG_normal)
|(apply thenG_ret)
|(apply GC_ret)
|(apply GC_if_true;eq_refl)
|(apply retGC1r;eq_refl;(repeat first|exact In.here|apply In.there|apply In.skip);eq_refl;eq_refl)
|(apply GL_on;eq_refl;eq_refl)
|(apply G_pv;eq_refl;first|exact trivial|omega)
|(apply G_ldW;eq_refl;(repeat first|exact In.here|apply In.there|apply In.skip);eq_refl)
|(apply G_cmpT;eq_refl;eq_refl;omega)
|(apply G_alloc;eq_refl;intro _)
|(apply G_box;eq_refl;eq_refl;intro _)
|(apply G_stW;(first|exact wr_p|kernel_rfl);eq_refl;eq_refl;eq_refl;eq_refl;(repeat first|exact Upd.here|apply Upd.there|apply Upd.skip);eq_refl)
|(apply GX_pure;apply build33_))
    exact ⟨_, (by repeat first | exact Wk.nil | exact Wk.refl | (apply Wk.cons; (focus ((repeat first | exact Rem.here | apply Rem.there | apply Rem.skip); done))) | apply Wk.nilv | apply Wk.last | apply Wk.drop), [], (none, 0), (none, 0), rfl, rfl, rfl⟩
end SC
end Go.Proofs.YtbmngkdnebklpaaGreat
end
section
/- frames: Model: the walk. -/
set_option linter.unusedVariables false
set_option linter.unusedSimpArgs false
namespace Go.Proofs.YtbmngkdnebklpaaGreat
namespace SC
open Go.Proofs
/-- A trace that does not come round. -/
abbrev strt (t : Trc) : Trc := ⟨t.init, t.rows, -1⟩
noncomputable def allH (c : Circ) (t : Trc) (n : Nat) : Bool := (List.range n).all fun k => c.constraints.all (lv (vk c t k))
/-- What is wrong with a trace of so many steps. -/
noncomputable def mtE (c : Circ) (n : Int) (t : Trc) : Int := if vrE c n ≠ 0 then vrE c n else if (t.rows.length : Int) ≠ n then 4 else if runE c (strt t) ≠ 0 then runE c (strt t) else if (startsM c t.init c.latches.length && allH c (strt t) t.rows.length) = true then 0 else 3
theorem mtE_vr {c : Circ} {n : Int} {t : Trc} (h : vrE c n ≠ 0) : mtE c n t = vrE c n := if_pos h
theorem mtE_len {c : Circ} {n : Int} {t : Trc} (h : vrE c n = 0) (h2 : (t.rows.length : Int) ≠ n) : mtE c n t = 4 := by unfold mtE; rw [if_neg (by omega), if_pos h2]
theorem mtE_run {c : Circ} {n : Int} {t : Trc} (h : vrE c n = 0) (h2 : (t.rows.length : Int) = n) (h3 : runE c (strt t) ≠ 0) : mtE c n t = runE c (strt t) := by unfold mtE; rw [if_neg (by omega), if_neg (by omega), if_pos h3]
theorem mtE_ok {c : Circ} {n : Int} {t : Trc} (h : vrE c n = 0) (h2 : (t.rows.length : Int) = n) (h3 : runE c (strt t) = 0) (h4 : (startsM c t.init c.latches.length && allH c (strt t) t.rows.length) = true) : mtE c n t = 0 := by unfold mtE; rw [if_neg (by omega), if_neg (by omega), if_neg (by omega), if_pos h4]
theorem mtE_no {c : Circ} {n : Int} {t : Trc} (h : vrE c n = 0) (h2 : (t.rows.length : Int) = n) (h3 : runE c (strt t) = 0) (h4 : (startsM c t.init c.latches.length && allH c (strt t) t.rows.length) = false) : mtE c n t = 3 := by unfold mtE; rw [if_neg (by omega), if_neg (by omega), if_neg (by omega), if_neg (by rw [h4]; decide)]
theorem mtE_zero {c : Circ} {n : Int} {t : Trc} (h : mtE c n t = 0) : vrE c n = 0 ∧ (t.rows.length : Int) = n ∧ runE c (strt t) = 0 ∧ startsM c t.init c.latches.length = true ∧ allH c (strt t) t.rows.length = true := by
  unfold mtE at h
  split at h
  · exact absurd h (by assumption)
  · split at h
    · cases h
    · split at h
      · exact absurd h (by assumption)
      · split at h
        · rename_i h1 h2 h3 h4
          rw [Bool.and_eq_true] at h4
          exact ⟨by omega, by omega, by omega, h4.1, h4.2⟩
        · cases h
/-- What the model of a run is. -/
structure GoodM (c : Circ) (t : Trc) (n : Nat) (out : List Bool) : Prop where
  len : (out.length : Int) = 1 + (n : Int) * c.max
  zero : gt out 0 = false
  at_ : ∀ k < n, ∀ x : Int, 1 ≤ x → x ≤ c.max → gt out ((k : Int) * c.max + x) = gt (vk c t k) x
/-- The model of a run as an answer. -/
def MdR (c : Circ) (t : Trc) (n : Nat) (v : Value) (N : Mm) : Prop := ∃ out A k, v = .tuple #[.slice A out.length k, nu 0] ∧ GoodM c t n out ∧ N = [.vec booc 1 4 A k out]
theorem RdB.runs {Γ : Mm} {A : Option Addr} {k : Nat} {ps : List (HMom × Mom)} (hi : In Γ (.any (bun (runB ps A k)))) : Rd Γ encM 4 A ps := fun w M => (MomsIn.bun hi M).row
theorem gt_run {c : Circ} {t : Trc} {n k : Nat} {ps : List (HMom × Mom)} (h : ps.map (·.2) = runM c t n) (hk : k < n) : (gt ps (k : Int)).2 = momM c (stM c t k) (vk c t k) := by
  have hl := map_len h
  rw [runM_len] at hl
  have h1 : (ps.map (·.2))[k]? = (runM c t n)[k]? := by rw [h]
  unfold runM at h1
  rw [List.getElem?_map, List.getElem?_map, List.getElem?_eq_getElem (by omega), List.getElem?_range hk] at h1
  rw [gt_nat (by omega)]
  exact Option.some.inj h1
theorem any_run {c : Circ} {t : Trc} {n : Nat} {ps : List (HMom × Mom)} (h : ps.map (·.2) = runM c t n) : (ps.any fun p => !p.2.holds) = !allH c t n := by
  have e1 : (ps.any fun p => !p.2.holds) = !((ps.map (·.2)).all fun m => m.holds) := by
    rw [List.all_map, List.not_all_eq_any_not]
    rfl
  rw [e1, h]
  unfold runM allH
  rw [List.all_map]
  rfl
attribute [local irreducible] WC WL WX WS WO OX Does DoesU Enters CV Pure thenQ blockQ retQ Wants retQC GC GL GS GX RdB thenG blockG retG Rd At gt CVN CVM
set_option maxRecDepth 100000
theorem model1_cv {w : World} {p : HMom × Mom} : CVN Tryz.prog 28 [.agg (encM p).toArray] w fun v N => N = [] ∧ v = .bool (!p.2.holds) := by
  obtain ⟨hm, m⟩ := p
  obtain ⟨st, ho, bd, fr⟩ := m
  refine CVN.enter 6 [2] Tryz.func28 rfl rfl rfl (by decide) rfl ?_
  cases ho
  all_goals
    repeat' (first
|(apply GC_seqK;intro K hK)
|(apply hK;clear hK K)
|(apply GC_region)
|(apply GL_nil)
|(apply thenG_normal)
|(apply GC_ret)
|(apply retG1;eq_refl)
|(apply GL_on;eq_refl;eq_refl)
|(apply G_pv;eq_refl;first|exact trivial|omega)
|(apply G_field;eq_refl)
|(apply G_ld;eq_refl;(repeat first|exact In.here|apply In.there|apply In.skip);eq_refl)
|(apply G_box;eq_refl;eq_refl;intro _))
    exact ⟨[], (by repeat first | exact Wk.nil | exact Wk.refl | (apply Wk.cons; (focus ((repeat first | exact Rem.here | apply Rem.there | apply Rem.skip); done))) | apply Wk.nilv | apply Wk.last | apply Wk.drop), rfl, rfl⟩
theorem indexMom_cv {w : World} {A : Option Addr} {k : Nat} {ps : List (HMom × Mom)} (H : RowA w encM 4 A ps) (hn : ps.length ≤ 9223372036854775807) :
    CVN Tryz.prog 53 [.slice A ps.length k, .func (.func 28) #[] #[]] w fun v N => N = [] ∧ ∃ i : Int, v = nu i ∧ decide (0 ≤ i) = ps.any fun p => !p.2.holds := by
  refine CVN.enter 19 [4] Tryz.func53 rfl rfl rfl (by decide) rfl ?_
  repeat' (first
|(apply GC_seqK;intro K hK)
|(apply hK;clear hK K)
|(apply GC_block)
|(apply GC_region)
|(apply GL_nil)
|(apply thenG_normal)
|(apply GL_on;eq_refl;eq_refl)
|(apply G_pv;eq_refl;first|exact trivial|omega)
|(apply G_len;eq_refl))
  refine GC_loopK [0, 1, 7] (fun i : Nat => [(8, nu i)]) (fun _ => [.old w none_]) (fun i => i ≤ ps.length ∧ ((ps.take i).any fun p => !p.2.holds) = false) (fun i => ps.length - i) 0 (by repeat first | exact Pick.nil | (apply Pick.cons; eq_refl)) (by repeat first | exact trivial | refine ⟨rfl, ?_⟩) (by repeat first | exact Wk.nil | exact Wk.refl | (apply Wk.cons; (focus ((repeat first | exact Rem.here | apply Rem.there | apply Rem.skip); done))) | apply Wk.nilv | apply Wk.last | apply Wk.drop) ⟨Nat.zero_le _, by simp⟩ ?_
  rintro i ⟨hi, hall⟩
  rcases Nat.lt_or_ge i ps.length with hlt | hge
  · have e1 := List.take_succ_eq_append_getElem hlt
    rw [← gt_nat hlt] at e1
    have g1 := gt_mem (l := ps) (i := (i : Int)) (by omega) (by omega)
    have hcl : ∀ Γ, In Γ (.old w none_) → ∀ w', Mem w' Γ → CVN Tryz.prog 28 ([.agg (encM (gt ps (i : Int))).toArray] ++ (#[] : Array Value).toList) w' _ := fun Γ h0 w' M => model1_cv
    cases hv : (gt ps (i : Int)).2.holds
    all_goals
      rw [hv] at hcl
      repeat' (first
|(apply G_callF;eq_refl;eq_refl;infer_instance;eq_refl;(apply hcl;(repeat first|exact In.here|apply In.there|apply In.skip));rintro _ _ ⟨rfl, rfl⟩)
|(apply GC_seqK;intro K hK)
|(apply hK;clear hK K)
|(apply GC_block)
|(apply GC_region)
|(apply GL_nil)
|(apply thenG_normal)
|(apply thenG_ret)
|(apply blockG_ret)
|(apply blockG_normal)
|(apply GC_ret)
|(apply GC_skip)
|(apply GC_if_true;eq_refl)
|(apply GC_if_false;eq_refl)
|(apply retG1;eq_refl)
|(apply GL_on;eq_refl;eq_refl)
|(apply G_pv;eq_refl;first|exact trivial|omega)
|(apply G_rdW;eq_refl;(first|(apply Rd.own;(repeat first|exact In.here|apply In.there|apply In.skip);infer_instance)|(apply Rd.old;(repeat first|exact In.here|apply In.there|apply In.skip);assumption)|(apply Rd.oldR;(repeat first|exact In.here|apply In.there|apply In.skip);assumption)|exact Rd.nil|assumption);infer_instance;(case ih => infer_instance);omega;omega)
|(apply G_cmpT;eq_refl;eq_refl;omega)
|(apply G_ix;eq_refl;eq_refl;(first|(apply Rd.own;(repeat first|exact In.here|apply In.there|apply In.skip);infer_instance)|(apply Rd.old;(repeat first|exact In.here|apply In.there|apply In.skip);assumption)|(apply Rd.oldR;(repeat first|exact In.here|apply In.there|apply In.skip);assumption)|exact Rd.nil|assumption);(first|eq_refl|omega);omega;omega))
    · refine ⟨[], (by repeat first | exact Wk.nil | exact Wk.refl | (apply Wk.cons; (focus ((repeat first | exact Rem.here | apply Rem.there | apply Rem.skip); done))) | apply Wk.nilv | apply Wk.last | apply Wk.drop), rfl, _, rfl, ?_⟩
      have : (ps.any fun p => !p.2.holds) = true := List.any_eq_true.2 ⟨_, g1, by rw [hv]; rfl⟩
      rw [this]
      simp
    · exact ⟨i + 1, (by repeat first | exact trivial | refine ⟨rfl, ?_⟩), (by repeat first | exact Wk.nil | exact Wk.refl | (apply Wk.cons; (focus ((repeat first | exact Rem.here | apply Rem.there | apply Rem.skip); done))) | apply Wk.nilv | apply Wk.last | apply Wk.drop), ⟨hlt, by rw [e1, List.any_append, hall]; simp [hv]⟩, by omega⟩
  · repeat' (first
|(apply GC_seqK;intro K hK)
|(apply hK;clear hK K)
|(clear hK K;apply hK;clear hK K)
|(apply GC_region)
|(apply GL_nil)
|(apply thenG_normal)
|(apply thenG_exit)
|(apply blockG_hit)
|(apply GC_ret)
|(apply GC_exit)
|(apply GC_if_false;eq_refl)
|(apply retG1;eq_refl)
|(apply GL_on;eq_refl;eq_refl)
|(apply G_pv;eq_refl;first|exact trivial|omega)
|(apply G_cmpF;eq_refl;eq_refl;omega))
    rw [List.take_of_length_le hge] at hall
    exact ⟨[], (by repeat first | exact Wk.nil | exact Wk.refl | (apply Wk.cons; (focus ((repeat first | exact Rem.here | apply Rem.there | apply Rem.skip); done))) | apply Wk.nilv | apply Wk.last | apply Wk.drop), rfl, _, rfl, by rw [hall]; rfl⟩
theorem containsMom_cv {w : World} {A : Option Addr} {k : Nat} {ps : List (HMom × Mom)} (H : RowA w encM 4 A ps) (hn : ps.length ≤ 9223372036854775807) :
    CVN Tryz.prog 27 [.slice A ps.length k, .func (.func 28) #[] #[]] w fun v N => N = [] ∧ v = .bool (ps.any fun p => !p.2.holds) := by
  have hix : ∀ Γ, In Γ (.old w none_) → ∀ w', Mem w' Γ → CVN Tryz.prog 53 [.slice A ps.length k, .func (.func 28) #[] #[]] w' _ := fun Γ h0 w' M => indexMom_cv (H.chg (h0.old M)) hn
  refine CVN.enter 9 [4] Tryz.func27 rfl rfl rfl (by decide) rfl ?_
  repeat' (first
|(apply G_call;eq_refl;eq_refl;(apply hix;(repeat first|exact In.here|apply In.there|apply In.skip));rintro _ _ ⟨rfl, i, rfl, hi⟩)
|(apply GC_seqK;intro K hK)
|(apply hK;clear hK K)
|(apply GC_region)
|(apply GL_nil)
|(apply thenG_normal)
|(apply GC_ret)
|(apply retG1;eq_refl)
|(apply GL_on;eq_refl;eq_refl)
|(apply G_pv;eq_refl;first|exact trivial|omega)
|(apply G_cmpD;eq_refl;eq_refl;(case hd => infer_instance)))
  exact ⟨[], (by repeat first | exact Wk.nil | exact Wk.refl | (apply Wk.cons; (focus ((repeat first | exact Rem.here | apply Rem.there | apply Rem.skip); done))) | apply Wk.nilv | apply Wk.last | apply Wk.drop), rfl, by rw [← hi]⟩
end SC
end Go.Proofs.YtbmngkdnebklpaaGreat
end
section
/- frames: Model: the walk. -/
set_option linter.unusedVariables false
set_option linter.unusedSimpArgs false
namespace Go.Proofs.YtbmngkdnebklpaaGreat
namespace SC
open Go.Proofs
theorem gt_put {l : List Bool} {j : Nat} {b : Bool} {z : Int} (hj : j < l.length) : gt (l.set j b) z = if z.toNat = j then b else gt l z := by
  rw [gtB, gtB, List.getD_eq_getElem?_getD, List.getD_eq_getElem?_getD, List.getElem?_set]
  by_cases h : z.toNat = j
  · rw [if_pos h, if_pos h.symm, if_pos hj]
    rfl
  · rw [if_neg h, if_neg (fun e => h e.symm)]
/-- The model of a run, as far as it is made. -/
structure PartM (c : Circ) (t : Trc) (n k i : Nat) (out : List Bool) : Prop where
  len : (out.length : Int) = 1 + (n : Int) * c.max
  zero : gt out 0 = false
  at_ : ∀ k' < k, ∀ x : Int, 1 ≤ x → x ≤ c.max → gt out ((k' : Int) * c.max + x) = gt (vk c t k') x
  cur : ∀ x : Int, 1 ≤ x → x ≤ (i : Int) → gt out ((k : Int) * c.max + x) = gt (vk c t k) x
theorem PartM.start {c : Circ} {t : Trc} {n : Nat} (h : 0 ≤ 1 + (n : Int) * c.max) : PartM c t n 0 0 (List.replicate (1 + (n : Int) * c.max).toNat false) :=
  ⟨by rw [List.length_replicate]; omega, by
    rw [gtB, List.getD_eq_getElem?_getD, List.getElem?_replicate]
    split <;> rfl, fun k hk => absurd hk (Nat.not_lt_zero _), fun x h1 h2 => by omega⟩
theorem row_lt {k k' : Nat} {m : Int} (h : k' < k) (hm : 0 ≤ m) : (k' : Int) * m + m ≤ (k : Int) * m := by
  have h1 : ((k' : Int) + 1) * m ≤ (k : Int) * m := Int.mul_le_mul_of_nonneg_right (by omega) hm
  rw [Int.add_mul, Int.one_mul] at h1
  exact h1
theorem PartM.set {c : Circ} {t : Trc} {n k i : Nat} {out : List Bool} (h : PartM c t n k i out) (hk : k < n) (hi : (i : Int) + 1 ≤ c.max) : PartM c t n k (i + 1) (out.set ((k : Int) * c.max + ((i : Int) + 1)).toNat (gt (vk c t k) ((i : Int) + 1))) := by
  have m0 : 0 ≤ c.max := by omega
  have z0 : 0 ≤ (k : Int) * c.max := Int.mul_nonneg (by omega) m0
  have z1 := row_lt hk m0
  have hl := h.len
  have hj : ((k : Int) * c.max + ((i : Int) + 1)).toNat < out.length := by omega
  refine ⟨by rw [List.length_set]; exact hl, ?_, fun k' hk' x h1 h2 => ?_, fun x h1 h2 => ?_⟩
  · rw [gt_put hj, if_neg (by omega)]
    exact h.zero
  · have z2 := row_lt hk' m0
    have z3 : 0 ≤ (k' : Int) * c.max := Int.mul_nonneg (by omega) m0
    rw [gt_put hj, if_neg (by omega)]
    exact h.at_ k' hk' x h1 h2
  · rw [gt_put hj]
    by_cases e : x = (i : Int) + 1
    · subst e
      rw [if_pos rfl]
    · rw [if_neg (by omega)]
      exact h.cur x h1 (by omega)
theorem PartM.next {c : Circ} {t : Trc} {n k i : Nat} {out : List Bool} (h : PartM c t n k i out) (hi : c.max ≤ (i : Int)) : PartM c t n (k + 1) 0 out :=
  ⟨h.len, h.zero, fun k' hk' x h1 h2 => by
    rcases Nat.lt_or_ge k' k with hlt | hge
    · exact h.at_ k' hlt x h1 h2
    · obtain rfl : k' = k := by omega
      exact h.cur x h1 (by omega), fun x h1 h2 => by omega⟩
theorem PartM.done {c : Circ} {t : Trc} {n : Nat} {out : List Bool} (h : PartM c t n n 0 out) : GoodM c t n out := ⟨h.len, h.zero, h.at_⟩
theorem TrcIn.strt {w : World} {t : Trc} {a b : Hdl} (H : TrcIn w t a b) : TrcIn w (strt t) a b := ⟨H.init, H.rows, H.each, H.nila, H.nilb, H.nile, H.li, H.lr, H.le, show fits (-1) from ⟨by decide, by decide⟩⟩
attribute [local irreducible] WC WL WX WS WO OX Does DoesU Enters CV Pure thenQ blockQ retQ Wants retQC GC GL GS GX RdB thenG blockG retG Rd At gt CVN CVM
attribute [local irreducible] bun
set_option maxRecDepth 100000
set_option maxHeartbeats 1600000 in
theorem ModelF_cv {w : World} {c : Circ} {h js : Hd} {n : Int} {t : Trc} {a b : Hdl} (H : CirIn w c h js) (HT : TrcIn w t a b) :
    CVN Tryz.prog 10 [.agg (ccells c h).toArray, nu n, .agg (tcs t a b).toArray] w fun v N => (mtE c n t = 0 ∧ MdR c (strt t) n.toNat v N) ∨ (mtE c n t ≠ 0 ∧ v = .tuple #[.slice none 0 0, nu (mtE c n t)] ∧ N = []) := by
  have hvr : ∀ Γ, In Γ (.old w none_) → ∀ w', Mem w' Γ → CVN Tryz.prog 21 [.agg (ccells c h).toArray, nu n] w' _ := fun Γ hi w' M => VarsP16_cv (H.chg (hi.old M))
  have hrun : ∀ Γ, In Γ (.old w none_) → ∀ w', Mem w' Γ → CVN Tryz.prog 25 [.agg (ccells c h).toArray, .agg #[.slice a.1 t.init.length a.2, .slice b.1 t.rows.length b.2, nu (-1)]] w' (RunB (runE c (strt t)) (runsM c (strt t))) := fun Γ hi w' M => RunB.to (RunR.to (Run_cv (t := strt t) (H.chg (hi.old M)) (HT.strt.chg (hi.old M))) rfl rfl)
  have hRow := HT.rows
  have hlr := HT.lr
  refine CVN.enter 106 [6, 7] Tryz.func10 rfl rfl rfl (by decide) rfl ?_
  by_cases hz : vrE c n = 0
  · obtain ⟨he, n1, n2, n3⟩ := vrE_zero hz
    have R := right_of H.at_ H.sane he
    have m0 := R.m0
    have m1 := R.m1
    rw [hz, vrM_ok hz] at hvr
    by_cases hl : (t.rows.length : Int) = n
    · by_cases hr : runE c (strt t) = 0
      · have F := (runE_zero hr).2
        have hsE : startE c t.init = 0 := by unfold startE; rw [if_neg (by omega), if_neg (by have := F.init; dsimp only [strt] at this; omega)]
        have hsB : startB c t.init = startsM c t.init c.latches.length := by unfold startB; rw [if_pos hsE]
        have hst : ∀ Γ, In Γ (.old w none_) → ∀ w', Mem w' Γ → CVN Tryz.prog 26 [.agg (ccells c h).toArray, .slice a.1 t.init.length a.2] w' fun v N => v = .tuple #[.bool (startsM c t.init c.latches.length), nu 0] ∧ N = [] := fun Γ hi w' M => by
          have := StartsP_cv (k2 := a.2) (H.chg (hi.old M)) (HT.init.chg (hi.old M))
          rwa [hsE, hsB] at this
        have hrs : runsM c (strt t) = runM c (strt t) t.rows.length := if_pos hr
        rw [hr, hrs] at hrun
        have hco : ∀ Γ A k ps, In Γ (.any (bun (runB ps A k))) → ps.map (·.2) = runM c (strt t) t.rows.length → ∀ w', Mem w' Γ → CVN Tryz.prog 27 [.slice A ps.length k, .func (.func 28) #[] #[]] w' fun v N => N = [] ∧ v = .bool (!allH c (strt t) t.rows.length) := fun Γ A k ps hi e w' M => by
          have := containsMom_cv (k := k) ((RdB.runs hi).at M) (MomsIn.bun hi M).len
          rwa [any_run e] at this
        cases hs : startsM c t.init c.latches.length
        · have e0 := mtE_no hz hl hr (by rw [hs]; rfl)
          rw [hs] at hst
          rw [e0]
          repeat' (first
|(apply G_call;eq_refl;eq_refl;(apply hvr;(repeat first|exact In.here|apply In.there|apply In.skip));rintro _ _ ⟨rfl, rfl⟩)
|(apply G_call;eq_refl;eq_refl;(apply hrun;(repeat first|exact In.here|apply In.there|apply In.skip));rintro _ _ ⟨ps, A9, k9, rfl, hps, rfl⟩)
|(apply G_call;eq_refl;eq_refl;(apply hst;(repeat first|exact In.here|apply In.there|apply In.skip));rintro _ _ ⟨rfl, rfl⟩)
|(apply GC_seqK;intro K hK)
|(apply hK;clear hK K)
|(apply GC_region)
|(apply GL_nil)
|(apply thenG_normal)
|(apply thenG_ret)
|(apply GC_ret)
|(apply GC_skip)
|(apply GC_if_true;eq_refl)
|(apply GC_if_false;eq_refl)
|(apply retG2;eq_refl;eq_refl)
|(apply GL_on;eq_refl;eq_refl)
|(apply GL_off;eq_refl;eq_refl)
|(apply G_pv;eq_refl;first|exact trivial|omega)
|(apply G_field;eq_refl)
|(apply G_ld;eq_refl;(repeat first|exact In.here|apply In.there|apply In.skip);eq_refl)
|(apply G_ldW;eq_refl;(repeat first|exact In.here|apply In.there|apply In.skip);eq_refl)
|(apply G_cmpF;eq_refl;eq_refl;omega)
|(apply G_len;eq_refl)
|(apply G_box;eq_refl;eq_refl;intro _)
|(apply GX_pure;apply build33_0_1_2 <;> eq_refl))
          exact ⟨[], (by repeat first | exact Wk.nil | exact Wk.refl | (apply Wk.cons; (focus ((repeat first | exact Rem.here | apply Rem.there | apply Rem.skip); done))) | apply Wk.nilv | apply Wk.last | apply Wk.drop), .inr ⟨by decide, rfl, rfl⟩⟩
        · rw [hs] at hst
          cases ha : allH c (strt t) t.rows.length
          · have e0 := mtE_no hz hl hr (by rw [hs, ha]; rfl)
            rw [ha] at hco
            rw [e0]
            repeat' (first
|(apply G_call;eq_refl;eq_refl;(apply hvr;(repeat first|exact In.here|apply In.there|apply In.skip));rintro _ _ ⟨rfl, rfl⟩)
|(apply G_call;eq_refl;eq_refl;(apply hrun;(repeat first|exact In.here|apply In.there|apply In.skip));rintro _ _ ⟨ps, A9, k9, rfl, hps, rfl⟩)
|(apply G_call;eq_refl;eq_refl;(apply hst;(repeat first|exact In.here|apply In.there|apply In.skip));rintro _ _ ⟨rfl, rfl⟩)
|(apply G_call;eq_refl;eq_refl;(apply hco;(repeat first|exact In.here|apply In.there|apply In.skip);exact hps);rintro _ _ ⟨rfl, rfl⟩)
|(apply GC_seqK;intro K hK)
|(apply hK;clear hK K)
|(apply GC_region)
|(apply GL_nil)
|(apply thenG_normal)
|(apply thenG_ret)
|(apply GC_ret)
|(apply GC_skip)
|(apply GC_if_true;eq_refl)
|(apply GC_if_false;eq_refl)
|(apply retG2;eq_refl;eq_refl)
|(apply GL_on;eq_refl;eq_refl)
|(apply G_pv;eq_refl;first|exact trivial|omega)
|(apply G_field;eq_refl)
|(apply G_ld;eq_refl;(repeat first|exact In.here|apply In.there|apply In.skip);eq_refl)
|(apply G_ldW;eq_refl;(repeat first|exact In.here|apply In.there|apply In.skip);eq_refl)
|(apply G_cmpF;eq_refl;eq_refl;omega)
|(apply G_len;eq_refl)
|(apply G_box;eq_refl;eq_refl;intro _)
|(apply GX_pure;apply build33_0_1_2 <;> eq_refl))
            exact ⟨[], (by repeat first | exact Wk.nil | exact Wk.refl | (apply Wk.cons; (focus ((repeat first | exact Rem.here | apply Rem.there | apply Rem.skip); done))) | apply Wk.nilv | apply Wk.last | apply Wk.drop), .inr ⟨by decide, rfl, rfl⟩⟩
          · have e0 := mtE_ok hz hl hr (by rw [hs, ha]; rfl)
            rw [ha] at hco
            rw [e0]
            obtain ⟨z0, z1⟩ := mul_le (by omega : 0 ≤ n) (by omega : n ≤ 600) m0 m1
            repeat' (first
|(apply G_call;eq_refl;eq_refl;(apply hvr;(repeat first|exact In.here|apply In.there|apply In.skip));rintro _ _ ⟨rfl, rfl⟩)
|(apply G_call;eq_refl;eq_refl;(apply hrun;(repeat first|exact In.here|apply In.there|apply In.skip));rintro _ _ ⟨ps, A9, k9, rfl, hps, rfl⟩)
|(apply G_call;eq_refl;eq_refl;(apply hst;(repeat first|exact In.here|apply In.there|apply In.skip));rintro _ _ ⟨rfl, rfl⟩)
|(apply G_call;eq_refl;eq_refl;(apply hco;(repeat first|exact In.here|apply In.there|apply In.skip);exact hps);rintro _ _ ⟨rfl, rfl⟩)
|(apply G_makeI booc;eq_refl;eq_refl;omega;eq_refl;omega;decide;intro b14)
|(apply GC_seqK;intro K hK)
|(apply hK;clear hK K)
|(apply GC_block)
|(apply GC_region)
|(apply GL_nil)
|(apply thenG_normal)
|(apply GC_skip)
|(apply GC_if_false;eq_refl)
|(apply GL_on;eq_refl;eq_refl)
|(apply G_pv;eq_refl;first|exact trivial|omega)
|(apply G_field;eq_refl)
|(apply G_ld;eq_refl;(repeat first|exact In.here|apply In.there|apply In.skip);eq_refl)
|(apply G_ldW;eq_refl;(repeat first|exact In.here|apply In.there|apply In.skip);eq_refl)
|(apply G_cmpF;eq_refl;eq_refl;omega)
|(apply G_len;eq_refl)
|(apply G_alloc;eq_refl;intro _)
|(apply G_box;eq_refl;eq_refl;intro _)
|(apply G_stW;(first|exact wr_p|kernel_rfl);eq_refl;eq_refl;eq_refl;eq_refl;(repeat first|exact Upd.here|apply Upd.there|apply Upd.skip);eq_refl)
|(apply GX_pure;apply build33_0_1_2 <;> eq_refl)
|(apply GX_pure;apply build66_0 <;> eq_refl))
            obtain ⟨q, rfl⟩ : ∃ q : Nat, n = (q : Int) := ⟨n.toNat, by omega⟩
            have hpl : ps.length = q := by rw [map_len hps, runM_len]; omega
            have hq : t.rows.length = q := by omega
            have hV : ∀ k : Nat, k < q → ∀ Γ, In Γ (.old w none_) → In Γ (.any (bun (runB ps A9 k9))) → ∀ w', Mem w' Γ → CVN Tryz.prog 29 [.agg (ccells c h).toArray, .slice (gt ps (k : Int)).1.1.1 (gt ps (k : Int)).2.state.length (gt ps (k : Int)).1.1.2, .slice (gt t.rows (k : Int)).1.1 (gt t.rows (k : Int)).2.length (gt t.rows (k : Int)).1.2] w' fun v N => ∃ A' k', v = .tuple #[.slice A' (vk c (strt t) k).length k', nu 0] ∧ N = [.vec booc 1 4 A' k' (vk c (strt t) k)] := fun k hk Γ hi hb w' M => by
              have g1 := gt_mem (l := ps) (i := (k : Int)) (by omega) (by omega)
              have g2 := gt_mem (l := t.rows) (i := (k : Int)) (by omega) (by omega)
              have := ValuesP_cv (k2 := (gt ps (k : Int)).1.1.2) (k3 := (gt t.rows (k : Int)).1.2) (H.chg (hi.old M)) ((MomsIn.bun hb M).st _ g1) ((HT.each _ g2).chg (hi.old M))
              have e1 : (gt ps (k : Int)).2.state = stM c (strt t) k := by rw [gt_run hps (by omega)]; rfl
              have e2 : stepE c (gt ps (k : Int)).2.state (gt t.rows (k : Int)).2 = 0 := stepE_ok he (by rw [e1]; exact stM_len F.init k) (F.rows _ g2)
              have e3 : valsM c (gt ps (k : Int)).2.state (gt t.rows (k : Int)).2 = vk c (strt t) k := by unfold valsM; rw [if_pos e2, e1]; rfl
              unfold ValsR at this
              rwa [e2, e3] at this
            have hat : ∀ (k i : Nat), (k : Int) < q → (i : Int) + 1 ≤ c.max → ∀ Γ, ∀ w', Mem w' Γ → CVN Tryz.prog 22 [.agg (ccells c h).toArray, nu (2 * ((i + 1 : Nat) : Int)), nu (k : Int)] w' fun v N => N = [] ∧ v = nu ((k : Int) * c.max + ((i : Int) + 1) + 1) := fun k i hk hi Γ w' M => by
              obtain ⟨z0, z1⟩ := mul_le (by omega : 0 ≤ (k : Int)) (by omega : (k : Int) ≤ 600) m0 m1
              have := at_cv (w := w') (h := h) (c := c) (l := 2 * ((i + 1 : Nat) : Int)) (t := (k : Int)) (by omega) (by omega) z0 z1
              have e : atM c.max (2 * ((i + 1 : Nat) : Int)) (k : Int) = (k : Int) * c.max + ((i : Int) + 1) + 1 := by
                unfold atM
                rw [if_neg (by omega), if_pos (by omega)]
                omega
              rwa [e] at this
            have hVl : ∀ k, (vk c (strt t) k).length = (c.max + 1).toNat := fun k => valM_len c _ _
            rename_i b3 b5 b13
            refine GC_loopK [3, 5, 13, 14, 64, 65] (fun s : Nat × List Bool => [(66, nu s.1)]) (fun s => [.vec booc 1 4 (some ⟨b14, 0, none⟩) (1 + (q : Int) * c.max).toNat s.2, .box b13 66 (ccells c h), .any (bun (runB ps A9 k9)), .box b5 33 (tcs t a b), .box b3 29 (ccells c h), .old w none_])
              (fun s => s.1 ≤ q ∧ PartM c (strt t) q s.1 0 s.2) (fun s => q - s.1) (0, List.replicate (1 + (q : Int) * c.max).toNat false) (by repeat first | exact Pick.nil | (apply Pick.cons; eq_refl)) (by repeat first | exact trivial | refine ⟨rfl, ?_⟩) (by repeat first | exact Wk.nil | exact Wk.refl | (apply Wk.cons; (focus ((repeat first | exact Rem.here | apply Rem.there | apply Rem.skip); done))) | apply Wk.nilv | apply Wk.last | apply Wk.drop) ⟨Nat.zero_le _, PartM.start (by omega)⟩ ?_
            rintro ⟨k, out⟩ ⟨hk, hP⟩
            dsimp only at hk hP ⊢
            have hol := hP.len
            rcases Nat.lt_or_ge k q with hlt | hge
            · have hv := hV k hlt
              have hvl := hVl k
              have hnw : ∀ i : Nat, (i : Int) + 1 ≤ c.max → 0 ≤ (k : Int) * c.max + ((i : Int) + 1) ∧ (k : Int) * c.max + ((i : Int) + 1) < 1 + (q : Int) * c.max := fun i hi => by
                have := row_lt hlt m0
                have := Int.mul_nonneg (by omega : 0 ≤ (k : Int)) m0
                omega
              have hst9 : ∀ i : Nat, ∀ o : List Bool, PartM c (strt t) q k i o → (i : Int) + 1 ≤ c.max → PartM c (strt t) q k (i + 1) (o.set ((k : Int) * c.max + ((i : Int) + 1)).toNat (gt (vk c (strt t) k) ((i + 1 : Nat) : Int))) := fun i o h9 hi => h9.set hlt hi
              have hat9 := hat k
              generalize (k : Int) * c.max = z at *
              repeat' (first
|(apply G_rdW;eq_refl;(apply RdB.runs;(repeat first|exact In.here|apply In.there|apply In.skip));infer_instance;(case ih => infer_instance);omega;omega)
|(apply G_ix;eq_refl;eq_refl;(apply RdB.runs;(repeat first|exact In.here|apply In.there|apply In.skip));(first|eq_refl|omega);omega;omega)
|(apply G_call;eq_refl;eq_refl;(apply hv;(repeat first|exact In.here|apply In.there|apply In.skip);(repeat first|exact In.here|apply In.there|apply In.skip));rintro _ _ ⟨A17, k17, rfl, rfl⟩)
|(apply GC_seqK;intro K hK)
|(apply hK;clear hK K)
|(apply GC_block)
|(apply GC_region)
|(apply GL_nil)
|(apply thenG_normal)
|(apply GC_skip)
|(apply GC_if_true;eq_refl)
|(apply GC_if_false;eq_refl)
|(apply GL_on;eq_refl;eq_refl)
|(refine GC_draws (id := 17) [.q 0, .q 1, .q 2, .q 3, .q 4, .q 5, .q 6, .q 7, .c 8, .q 9, .q 10, .q 11, .q 12, .q 13] mixed (by kernel_rfl) (by kernel_rfl) ?_)
|(apply GS_nil)
|(apply GS_qon;eq_refl;eq_refl;eq_refl;eq_refl)
|(apply GS_con;eq_refl;eq_refl;eq_refl;eq_refl)
|(apply G_pv;eq_refl;first|exact trivial|omega)
|(apply G_field;eq_refl)
|(apply G_ld;eq_refl;(repeat first|exact In.here|apply In.there|apply In.skip);eq_refl)
|(apply G_ldW;eq_refl;(repeat first|exact In.here|apply In.there|apply In.skip);eq_refl)
|(apply G_rd;eq_refl;(first|(apply Rd.own;(repeat first|exact In.here|apply In.there|apply In.skip);infer_instance)|(apply Rd.old;(repeat first|exact In.here|apply In.there|apply In.skip);assumption)|(apply Rd.oldR;(repeat first|exact In.here|apply In.there|apply In.skip);assumption)|exact Rd.nil|assumption);(case ih => infer_instance);omega;omega;eq_refl)
|(apply G_cmpT;eq_refl;eq_refl;omega)
|(apply G_cmpF;eq_refl;eq_refl;omega)
|(apply G_ix;eq_refl;eq_refl;(first|(apply Rd.own;(repeat first|exact In.here|apply In.there|apply In.skip);infer_instance)|(apply Rd.old;(repeat first|exact In.here|apply In.there|apply In.skip);assumption)|(apply Rd.oldR;(repeat first|exact In.here|apply In.there|apply In.skip);assumption)|exact Rd.nil|assumption);(first|eq_refl|omega);omega;omega)
|(apply G_alloc;eq_refl;intro _)
|(apply G_stW;(first|exact wr_p|kernel_rfl);eq_refl;eq_refl;eq_refl;eq_refl;(repeat first|exact Upd.here|apply Upd.there|apply Upd.skip);eq_refl))
              refine GC_loopK [3, 5, 13, 14, 15, 17, 64, 65, 66] (fun s : Nat × List Bool => [(19, nu ((s.1 + 1 : Nat) : Int))]) (fun s => [.vec booc 1 4 (some ⟨b14, 0, none⟩) (1 + (q : Int) * c.max).toNat s.2, .vec booc 1 4 A17 k17 (vk c (strt t) k), .box b13 66 (ccells c h), .any (bun (runB ps A9 k9)), .box b5 33 (tcs t a b), .box b3 29 (ccells c h), .old w none_])
                (fun s => (s.1 : Int) ≤ c.max ∧ PartM c (strt t) q k s.1 s.2) (fun s => c.max.toNat - s.1) (0, out) (by repeat first | exact Pick.nil | (apply Pick.cons; eq_refl)) (by repeat first | exact trivial | refine ⟨rfl, ?_⟩) (by repeat first | exact Wk.nil | exact Wk.refl | (apply Wk.cons; (focus ((repeat first | exact Rem.here | apply Rem.there | apply Rem.skip); done))) | apply Wk.nilv | apply Wk.last | apply Wk.drop) ⟨by dsimp only; omega, hP⟩ ?_
              rintro ⟨i, o⟩ ⟨hi, hO⟩
              dsimp only at hi hO ⊢
              have hol2 := hO.len
              rcases Int.lt_or_le (i : Int) c.max with hlt2 | hge2
              · have h9 := hst9 i o hO (by omega)
                have ha := hat9 i (by omega) (by omega)
                have hw9 := hnw i (by omega)
                repeat' (first
|(apply G_call;eq_refl;eq_refl;(apply ha);rintro _ _ ⟨rfl, rfl⟩)
|(apply GC_seqK;intro K hK)
|(apply hK;clear hK K)
|(apply GC_block)
|(apply GC_region)
|(apply GL_nil)
|(apply thenG_normal)
|(apply blockG_normal)
|(apply GC_skip)
|(apply GC_if_true;eq_refl)
|(apply GL_on;eq_refl;eq_refl)
|(refine GC_draws (id := 23) [.q 0, .q 1, .q 2, .q 3, .q 4, .q 7, .q 8, .q 9, .q 10, .c 5, .q 6, .q 11, .c 12] mixed (by kernel_rfl) (by kernel_rfl) ?_)
|(apply GS_nil)
|(apply GS_qon;eq_refl;eq_refl;eq_refl;eq_refl)
|(apply GS_con;eq_refl;eq_refl;eq_refl;eq_refl)
|(apply G_pv;eq_refl;first|exact trivial|omega)
|(apply G_field;eq_refl)
|(apply G_ld;eq_refl;(repeat first|exact In.here|apply In.there|apply In.skip);eq_refl)
|(apply G_ldW;eq_refl;(repeat first|exact In.here|apply In.there|apply In.skip);eq_refl)
|(apply G_rd;eq_refl;(first|(apply Rd.own;(repeat first|exact In.here|apply In.there|apply In.skip);infer_instance)|(apply Rd.old;(repeat first|exact In.here|apply In.there|apply In.skip);assumption)|(apply Rd.oldR;(repeat first|exact In.here|apply In.there|apply In.skip);assumption)|exact Rd.nil|assumption);(case ih => infer_instance);omega;omega;eq_refl)
|(apply G_cmpT;eq_refl;eq_refl;omega)
|(apply G_ix;eq_refl;eq_refl;(first|(apply Rd.own;(repeat first|exact In.here|apply In.there|apply In.skip);infer_instance)|(apply Rd.old;(repeat first|exact In.here|apply In.there|apply In.skip);assumption)|(apply Rd.oldR;(repeat first|exact In.here|apply In.there|apply In.skip);assumption)|exact Rd.nil|assumption);(first|eq_refl|omega);omega;omega)
|(apply G_stV;(first|exact wr_p|kernel_rfl);eq_refl;eq_refl;eq_refl;eq_refl;(repeat first|exact Upd.here|apply Upd.there|apply Upd.skip);infer_instance;infer_instance;eq_refl;omega;(try simp only [List.length_set, List.length_append, List.length_replicate]);omega))
                refine ⟨(i + 1, o.set (z + ((i : Int) + 1) + 1 - 1).toNat (gt (vk c (strt t) k) ((i + 1 : Nat) : Int))), (by repeat first | exact trivial | refine ⟨rfl, ?_⟩), (by repeat first | exact Wk.nil | exact Wk.refl | (apply Wk.cons; (focus ((repeat first | exact Rem.here | apply Rem.there | apply Rem.skip); done))) | apply Wk.nilv | apply Wk.last | apply Wk.drop), ⟨by dsimp only; omega, ?_⟩, by dsimp only; omega⟩
                dsimp only
                rw [show z + ((i : Int) + 1) + 1 - 1 = z + ((i : Int) + 1) by omega]
                exact h9
              · repeat' (first
|(apply GC_seqK;intro K hK)
|(apply hK;clear hK K)
|(clear hK K;apply hK;clear hK K)
|(apply GC_region)
|(apply GL_nil)
|(apply thenG_normal)
|(apply thenG_exit)
|(apply blockG_hit)
|(apply blockG_normal)
|(apply GC_exit)
|(apply GC_if_false;eq_refl)
|(apply GL_on;eq_refl;eq_refl)
|(apply G_pv;eq_refl;first|exact trivial|omega)
|(apply G_field;eq_refl)
|(apply G_ld;eq_refl;(repeat first|exact In.here|apply In.there|apply In.skip);eq_refl)
|(apply G_cmpF;eq_refl;eq_refl;omega))
                exact ⟨(k + 1, o), (by repeat first | exact trivial | refine ⟨rfl, ?_⟩), (by repeat first | exact Wk.nil | exact Wk.refl | (apply Wk.cons; (focus ((repeat first | exact Rem.here | apply Rem.there | apply Rem.skip); done))) | apply Wk.nilv | apply Wk.last | apply Wk.drop), ⟨hlt, hO.next (by omega)⟩, by dsimp only; omega⟩
            · obtain rfl : k = q := by omega
              repeat' (first
|(apply GC_seqK;intro K hK)
|(apply hK;clear hK K)
|(clear hK K;apply hK;clear hK K)
|(apply GC_region)
|(apply GL_nil)
|(apply thenG_normal)
|(apply thenG_exit)
|(apply blockG_hit)
|(apply GC_ret)
|(apply GC_exit)
|(apply GC_if_false;eq_refl)
|(apply retG2;eq_refl;eq_refl)
|(apply GL_on;eq_refl;eq_refl)
|(apply G_pv;eq_refl;first|exact trivial|omega)
|(apply G_cmpF;eq_refl;eq_refl;omega))
              exact ⟨[.vec booc 1 4 (some ⟨b14, 0, none⟩) (1 + (k : Int) * c.max).toNat out], (by repeat first | exact Wk.nil | exact Wk.refl | (apply Wk.cons; (focus ((repeat first | exact Rem.here | apply Rem.there | apply Rem.skip); done))) | apply Wk.nilv | apply Wk.last | apply Wk.drop), .inl ⟨rfl, out, _, _, by rw [show out.length = (1 + (k : Int) * c.max).toNat by omega], hP.done, rfl⟩⟩
      · have e0 := mtE_run hz hl hr
        rw [e0]
        generalize runE c (strt t) = ε at *
        repeat' (first
|(apply G_call;eq_refl;eq_refl;(apply hvr;(repeat first|exact In.here|apply In.there|apply In.skip));rintro _ _ ⟨rfl, rfl⟩)
|(apply G_call;eq_refl;eq_refl;(apply hrun;(repeat first|exact In.here|apply In.there|apply In.skip));rintro _ _ ⟨ps, A9, k9, rfl, hps, rfl⟩)
|(apply GC_seqK;intro K hK)
|(apply hK;clear hK K)
|(apply GC_region)
|(apply GL_nil)
|(apply thenG_normal)
|(apply thenG_ret)
|(apply GC_ret)
|(apply GC_skip)
|(apply GC_if_true;eq_refl)
|(apply GC_if_false;eq_refl)
|(apply retG2;eq_refl;eq_refl)
|(apply GL_on;eq_refl;eq_refl)
|(apply G_pv;eq_refl;first|exact trivial|omega)
|(apply G_field;eq_refl)
|(apply G_ld;eq_refl;(repeat first|exact In.here|apply In.there|apply In.skip);eq_refl)
|(apply G_ldW;eq_refl;(repeat first|exact In.here|apply In.there|apply In.skip);eq_refl)
|(apply G_cmpT;eq_refl;eq_refl;omega)
|(apply G_cmpF;eq_refl;eq_refl;omega)
|(apply G_len;eq_refl)
|(apply G_box;eq_refl;eq_refl;intro _)
|(apply GX_pure;apply build33_0_1_2 <;> eq_refl))
        exact ⟨[], (by repeat first | exact Wk.nil | exact Wk.refl | (apply Wk.cons; (focus ((repeat first | exact Rem.here | apply Rem.there | apply Rem.skip); done))) | apply Wk.nilv | apply Wk.last | apply Wk.drop), .inr ⟨hr, rfl, rfl⟩⟩
    · have e0 := mtE_len hz hl
      rw [e0]
      repeat' (first
|(apply G_call;eq_refl;eq_refl;(apply hvr;(repeat first|exact In.here|apply In.there|apply In.skip));rintro _ _ ⟨rfl, rfl⟩)
|(apply GC_seqK;intro K hK)
|(apply hK;clear hK K)
|(apply GC_region)
|(apply GL_nil)
|(apply thenG_normal)
|(apply thenG_ret)
|(apply GC_ret)
|(apply GC_skip)
|(apply GC_if_true;eq_refl)
|(apply GC_if_false;eq_refl)
|(apply retG2;eq_refl;eq_refl)
|(apply GL_on;eq_refl;eq_refl)
|(apply G_pv;eq_refl;first|exact trivial|omega)
|(apply G_field;eq_refl)
|(apply G_ld;eq_refl;(repeat first|exact In.here|apply In.there|apply In.skip);eq_refl)
|(apply G_ldW;eq_refl;(repeat first|exact In.here|apply In.there|apply In.skip);eq_refl)
|(apply G_cmpT;eq_refl;eq_refl;omega)
|(apply G_cmpF;eq_refl;eq_refl;omega)
|(apply G_len;eq_refl)
|(apply G_box;eq_refl;eq_refl;intro _))
      exact ⟨[], (by repeat first | exact Wk.nil | exact Wk.refl | (apply Wk.cons; (focus ((repeat first | exact Rem.here | apply Rem.there | apply Rem.skip); done))) | apply Wk.nilv | apply Wk.last | apply Wk.drop), .inr ⟨by decide, rfl, rfl⟩⟩
  · have e0 := mtE_vr (t := t) hz
    rw [e0]
    rw [vrM_no hz] at hvr
    generalize vrE c n = ε at *
    repeat' (first
|(apply G_call;eq_refl;eq_refl;(apply hvr;(repeat first|exact In.here|apply In.there|apply In.skip));rintro _ _ ⟨rfl, rfl⟩)
|(apply GC_seqK;intro K hK)
|(apply hK;clear hK K)
|(apply GC_region)
|(apply GL_nil)
|(apply thenG_normal)
|(apply thenG_ret)
|(apply GC_ret)
|(apply GC_if_true;eq_refl)
|(apply retG2;eq_refl;eq_refl)
|(apply GL_on;eq_refl;eq_refl)
|(apply G_pv;eq_refl;first|exact trivial|omega)
|(apply G_ldW;eq_refl;(repeat first|exact In.here|apply In.there|apply In.skip);eq_refl)
|(apply G_cmpT;eq_refl;eq_refl;omega)
|(apply G_box;eq_refl;eq_refl;intro _))
    exact ⟨[], (by repeat first | exact Wk.nil | exact Wk.refl | (apply Wk.cons; (focus ((repeat first | exact Rem.here | apply Rem.there | apply Rem.skip); done))) | apply Wk.nilv | apply Wk.last | apply Wk.drop), .inr ⟨hz, rfl, rfl⟩⟩
end SC
end Go.Proofs.YtbmngkdnebklpaaGreat
end
section
/- trestleref13: Begun: the walk. -/
set_option linter.unusedVariables false
set_option linter.unusedSimpArgs false
namespace Go.Proofs.YtbmngkdnebklpaaGreat
namespace SC
open Go.Proofs
/-- What Begun answers. -/
def BegR (c : Circ) (t : Trc) (β : Bool) (v : Value) (N : Mm) : Prop := (β = true ∧ ∃ (ps : List (HMom × Mom)) (A : Option Addr) (k : Nat) (A' : Option Addr) (k' : Nat), v = .tuple #[.slice A ps.length k, .slice A' c.latches.length k', nu 0, nu 0] ∧ ps.map (·.2) = runM c t t.rows.length ∧ N = [.any (bun (runB ps A k))]) ∨ (β = false ∧ ∃ i ε : Int, ε ≠ 0 ∧ v = .tuple #[.slice none 0 0, .slice none 0 0, nu i, nu ε] ∧ N = [])
theorem allH_succ (c : Circ) (t : Trc) (i : Nat) : allH c t (i + 1) = (allH c t i && c.constraints.all (lv (vk c t i))) := by unfold allH; rw [List.range_succ, List.all_append]; simp
theorem allH_no {c : Circ} {t : Trc} {i n : Nat} (h : i < n) (hf : c.constraints.all (lv (vk c t i)) = false) : allH c t n = false := by
  cases h9 : allH c t n
  · rfl
  · unfold allH at h9
    rw [List.all_eq_true] at h9
    have := h9 i (List.mem_range.2 h)
    rw [hf] at this
    cases this
theorem retG4 {R : Value → Mm → Prop} {e : Env} {Γ : Mm} {a b c d : Nat} {v u x y : Value} (h : look e a = some v) (h1 : look e b = some u) (h2 : look e c = some x) (h3 : look e d = some y) (hr : R (.tuple #[v, u, x, y]) Γ) : retG [a, b, c, d] R .ret e Γ := ⟨[v, u, x, y], by simp [h, h1, h2, h3], hr⟩
attribute [local irreducible] WC WL WX WS WO OX Does DoesU Enters CV Pure thenQ blockQ retQ Wants retQC GC GL GS GX RdB thenG blockG retG Rd At gt CVN CVM
attribute [local irreducible] bun
set_option maxRecDepth 100000
set_option maxHeartbeats 1600000 in
theorem Begun_cv {w : World} {c : Circ} {h js : Hd} {t : Trc} {a b : Hdl} (H : CirIn w c h js) (HT : TrcIn w t a b) (he : (lookM c).2 = 0) (F : Fit c t) :
    CVN Tryz.prog 31 [.agg (ccells c h).toArray, .agg (tcs t a b).toArray] w (BegR c t (startsM c t.init c.latches.length && allH c t t.rows.length)) := by
  have R := right_of H.at_ H.sane he
  have l2 := R.nLat
  have hlr := HT.lr
  have hIn := HT.init
  have hil := F.init
  have hLat := H.at_.latches
  have hord : ∀ Γ, In Γ (.old w none_) → ∀ w', Mem w' Γ → CVN Tryz.prog 32 [.agg (ccells c h).toArray] w' (OrdR c) := fun Γ hi w' M => OrderRefG (H.at_.chg (hi.old M)) H.sane H.okay H.fits
  have hr0 : ∀ Γ A k, In Γ (.old w none_) → In Γ (.vec icell 1 3 A k (ordM c)) → ∀ w', Mem w' Γ → CVN Tryz.prog 55 [.agg (ccells c h).toArray, .slice A (ordM c).length k, .agg (tcs t a b).toArray] w' fun v N => ∃ (ps : List (HMom × Mom)) (A : Option Addr) (k : Nat) (A' : Option Addr) (k' : Nat), v = .tuple #[.slice A ps.length k, .slice A' c.latches.length k'] ∧ ps.map (·.2) = runM c t t.rows.length ∧ N = [.any (bun (runB ps A k))] := fun Γ A k hi hv w' M =>
    (Run0_cv R (H.at_.chg (hi.old M)) H.fits (hv.row M) (HT.chg (hi.old M)) F).wk fun v N ⟨ps, A, k, A', k', e1, e2, e3⟩ => ⟨_, by rw [e3]; exact (Wk.drop Wk.refl).trans bun_in, ps, A, k, A', k', e1, e2, rfl⟩
  refine CVN.enter 77 [4, 5, 6, 7] Tryz.func31 rfl rfl rfl (by decide) rfl ?_
  repeat' (first
|(apply G_call;eq_refl;eq_refl;(apply hord;(repeat first|exact In.here|apply In.there|apply In.skip));rintro _ _ (⟨he', rfl, rfl⟩|⟨_, A1, k1, rfl, rfl⟩);(exact absurd he he'))
|(apply GC_seqK;intro K hK)
|(apply hK;clear hK K)
|(apply GC_block)
|(apply GC_region)
|(apply GL_nil)
|(apply thenG_normal)
|(apply GL_on;eq_refl;eq_refl)
|(apply G_pv;eq_refl;first|exact trivial|omega)
|(apply G_ldW;eq_refl;(repeat first|exact In.here|apply In.there|apply In.skip);eq_refl)
|(apply G_box;eq_refl;eq_refl;intro _))
  rename_i b2 b3 hz3
  refine GC_loopK [2, 3, 8] (fun i : Nat => [(10, nu i)]) (fun _ => [.vec icell 1 3 A1 k1 (ordM c), .box b3 33 (tcs t a b), .box b2 29 (ccells c h), .old w none_]) (fun i => i ≤ c.latches.length ∧ startsM c t.init i = true) (fun i => c.latches.length - i) 0 (by repeat first | exact Pick.nil | (apply Pick.cons; eq_refl)) (by repeat first | exact trivial | refine ⟨rfl, ?_⟩) (by repeat first | exact Wk.nil | exact Wk.refl | (apply Wk.cons; (focus ((repeat first | exact Rem.here | apply Rem.there | apply Rem.skip); done))) | apply Wk.nilv | apply Wk.last | apply Wk.drop) ⟨Nat.zero_le _, rfl⟩ ?_
  rintro i ⟨hi, hall⟩
  rcases Nat.lt_or_ge i c.latches.length with hlt | hge
  · have hsc := startsM_succ c t.init i
    rw [hall, Bool.true_and] at hsc
    have hf := startsM_false (c := c) (s := t.init) hlt
    unfold okSt at hf hsc
    generalize hx : gt c.latches (i : Int) = x at *
    generalize hb : gt t.init (i : Int) = b at *
    cases b
    all_goals
      repeat' (first
|(apply retG4;eq_refl;eq_refl;eq_refl;eq_refl)
|(apply G_rdF;eq_refl;(apply Rd.old;(repeat first|exact In.here|apply In.there|apply In.skip);assumption);(case ih => infer_instance);omega;omega;(rw [hx];eq_refl))
|(apply G_rd;eq_refl;(apply Rd.old;(repeat first|exact In.here|apply In.there|apply In.skip);assumption);(case ih => infer_instance);omega;omega;(rw [hb];eq_refl))
|(apply GC_seqK;intro K hK)
|(apply hK;clear hK K)
|(apply GC_block)
|(apply GC_region)
|(apply GL_nil)
|(apply thenG_normal)
|(apply thenG_ret)
|(apply blockG_ret)
|(apply blockG_normal)
|(apply GC_ret)
|(apply GC_skip)
|(apply GC_if_true;eq_refl)
|(apply GC_if_false;eq_refl)
|(apply GL_on;eq_refl;eq_refl)
|(apply GL_off;eq_refl;eq_refl)
|(apply GL_offU;eq_refl;eq_refl;eq_refl)
|(apply G_pv;eq_refl;first|exact trivial|omega)
|(apply G_field;eq_refl)
|(apply G_fieldP;eq_refl)
|(apply G_ld;eq_refl;(repeat first|exact In.here|apply In.there|apply In.skip);eq_refl)
|(apply G_cmpT;eq_refl;eq_refl;omega)
|(apply G_cmpF;eq_refl;eq_refl;omega)
|(apply G_cmp;eq_refl;eq_refl;all_goals intro _)
|(apply G_len;eq_refl)
|(apply G_ix;eq_refl;eq_refl;(first|(apply Rd.own;(repeat first|exact In.here|apply In.there|apply In.skip);infer_instance)|(apply Rd.old;(repeat first|exact In.here|apply In.there|apply In.skip);assumption)|(apply Rd.oldR;(repeat first|exact In.here|apply In.there|apply In.skip);assumption)|exact Rd.nil|assumption);(first|eq_refl|omega);omega;omega))
    all_goals first
      | exact ⟨[], (by repeat first | exact Wk.nil | exact Wk.refl | (apply Wk.cons; (focus ((repeat first | exact Rem.here | apply Rem.there | apply Rem.skip); done))) | apply Wk.nilv | apply Wk.last | apply Wk.drop), .inr ⟨by rw [hf (by simp [*])]; rfl, _, _, by decide, rfl, rfl⟩⟩
      | exact ⟨i + 1, (by repeat first | exact trivial | refine ⟨rfl, ?_⟩), (by repeat first | exact Wk.nil | exact Wk.refl | (apply Wk.cons; (focus ((repeat first | exact Rem.here | apply Rem.there | apply Rem.skip); done))) | apply Wk.nilv | apply Wk.last | apply Wk.drop), ⟨hlt, by rw [hsc]; simp [*]⟩, by omega⟩
  · obtain rfl : i = c.latches.length := by omega
    have hsT := hall
    clear hall
    repeat' (first
|(apply G_call;eq_refl;eq_refl;(apply hr0;(repeat first|exact In.here|apply In.there|apply In.skip);(repeat first|exact In.here|apply In.there|apply In.skip));rintro _ _ ⟨ps, A9, k9, A8, k8, rfl, hps, rfl⟩)
|(apply GC_seqK;intro K hK)
|(apply hK;clear hK K)
|(clear hK K;apply hK;clear hK K)
|(apply GC_block)
|(apply GC_region)
|(apply GL_nil)
|(apply thenG_normal)
|(apply thenG_exit)
|(apply blockG_hit)
|(apply GC_exit)
|(apply GC_if_false;eq_refl)
|(apply GL_on;eq_refl;eq_refl)
|(apply G_pv;eq_refl;first|exact trivial|omega)
|(apply G_field;eq_refl)
|(apply G_ld;eq_refl;(repeat first|exact In.here|apply In.there|apply In.skip);eq_refl)
|(apply G_ldW;eq_refl;(repeat first|exact In.here|apply In.there|apply In.skip);eq_refl)
|(apply G_cmpF;eq_refl;eq_refl;omega)
|(apply G_len;eq_refl))
    have hpl : ps.length = t.rows.length := by rw [map_len hps, runM_len]
    refine GC_loopK [12, 13] (fun i : Nat => [(14, nu i)]) (fun _ => [.any (bun (runB ps A9 k9)), .old w none_]) (fun i => i ≤ t.rows.length ∧ allH c t i = true) (fun i => t.rows.length - i) 0 (by repeat first | exact Pick.nil | (apply Pick.cons; eq_refl)) (by repeat first | exact trivial | refine ⟨rfl, ?_⟩) (by repeat first | exact Wk.nil | exact Wk.refl | (apply Wk.cons; (focus ((repeat first | exact Rem.here | apply Rem.there | apply Rem.skip); done))) | apply Wk.nilv | apply Wk.last | apply Wk.drop) ⟨Nat.zero_le _, rfl⟩ ?_
    rintro i ⟨hi, hall⟩
    rcases Nat.lt_or_ge i t.rows.length with hlt | hge
    · have hg := gt_run hps hlt
      have hsucc := allH_succ c t i
      have hno := allH_no (c := c) (t := t) hlt
      generalize hx : gt ps (i : Int) = x at *
      obtain ⟨x1, st, ho, bd, fr⟩ := x
      have hho : ho = c.constraints.all (lv (vk c t i)) := congrArg Mom.holds hg
      rw [← hho, hall, Bool.true_and] at hsucc
      rw [← hho] at hno
      clear hho hg
      cases ho
      all_goals
        repeat' (first
|(apply retG4;eq_refl;eq_refl;eq_refl;eq_refl)
|(apply G_rdF;eq_refl;(apply RdB.runs;(repeat first|exact In.here|apply In.there|apply In.skip));(case ih => infer_instance);omega;omega;(rw [hx];dsimp only [encM];eq_refl))
|(apply G_ix;eq_refl;eq_refl;(apply RdB.runs;(repeat first|exact In.here|apply In.there|apply In.skip));(first|eq_refl|omega);omega;omega)
|(apply GC_seqK;intro K hK)
|(apply hK;clear hK K)
|(apply GC_block)
|(apply GC_region)
|(apply GL_nil)
|(apply thenG_normal)
|(apply thenG_ret)
|(apply blockG_ret)
|(apply blockG_normal)
|(apply GC_ret)
|(apply GC_skip)
|(apply GC_if_true;eq_refl)
|(apply GC_if_false;eq_refl)
|(apply GL_on;eq_refl;eq_refl)
|(apply G_pv;eq_refl;first|exact trivial|omega)
|(apply G_fieldP;eq_refl)
|(apply G_cmpT;eq_refl;eq_refl;omega)
|(apply G_len;eq_refl))
      · exact ⟨[], (by repeat first | exact Wk.nil | exact Wk.refl | (apply Wk.cons; (focus ((repeat first | exact Rem.here | apply Rem.there | apply Rem.skip); done))) | apply Wk.nilv | apply Wk.last | apply Wk.drop), .inr ⟨by rw [hsT, hno rfl]; rfl, _, _, by decide, rfl, rfl⟩⟩
      · exact ⟨i + 1, (by repeat first | exact trivial | refine ⟨rfl, ?_⟩), (by repeat first | exact Wk.nil | exact Wk.refl | (apply Wk.cons; (focus ((repeat first | exact Rem.here | apply Rem.there | apply Rem.skip); done))) | apply Wk.nilv | apply Wk.last | apply Wk.drop), ⟨hlt, hsucc⟩, by omega⟩
    · obtain rfl : i = t.rows.length := by omega
      repeat' (first
|(apply retG4;eq_refl;eq_refl;eq_refl;eq_refl)
|(apply GC_seqK;intro K hK)
|(apply hK;clear hK K)
|(clear hK K;apply hK;clear hK K)
|(apply GC_region)
|(apply GL_nil)
|(apply thenG_normal)
|(apply thenG_exit)
|(apply blockG_hit)
|(apply GC_ret)
|(apply GC_exit)
|(apply GC_if_false;eq_refl)
|(apply GL_on;eq_refl;eq_refl)
|(apply G_pv;eq_refl;first|exact trivial|omega)
|(apply G_cmpF;eq_refl;eq_refl;omega)
|(apply G_len;eq_refl))
      exact ⟨[.any (bun (runB ps A9 k9))], (by repeat first | exact Wk.nil | exact Wk.refl | (apply Wk.cons; (focus ((repeat first | exact Rem.here | apply Rem.there | apply Rem.skip); done))) | apply Wk.nilv | apply Wk.last | apply Wk.drop), .inl ⟨by rw [hsT, hall]; rfl, ps, A9, k9, A8, k8, rfl, hps, rfl⟩⟩
end SC
end Go.Proofs.YtbmngkdnebklpaaGreat
end
section
/- trestleref16: Model: the walk. -/
set_option linter.unusedVariables false
set_option linter.unusedSimpArgs false
namespace Go.Proofs.YtbmngkdnebklpaaGreat
namespace SC
open Go.Proofs
attribute [local irreducible] WC WL WX WS WO OX Does DoesU Enters CV Pure thenQ blockQ retQ Wants retQC GC GL GS GX RdB thenG blockG retG Rd At gt CVN CVM
attribute [local irreducible] bun
set_option maxRecDepth 100000
set_option maxHeartbeats 1600000 in
theorem ModelR16_cv {w : World} {c : Circ} {h js : Hd} {n : Int} {t : Trc} {a b : Hdl} (H : CirIn w c h js) (HT0 : TrcIn w t a b) :
    CVN Tryz.prog 11 [.agg (ccells c h).toArray, nu n, .agg (tcs t a b).toArray] w fun v N => (mtE c n t = 0 ∧ MdR c (strt t) n.toNat v N) ∨ (mtE c n t ≠ 0 ∧ v = .tuple #[.slice none 0 0, nu (mtE c n t)] ∧ N = []) := by
  obtain ⟨T, lp, rfl, hT⟩ : ∃ (T : Trc) (lp : Int), t = ⟨T.init, T.rows, lp⟩ ∧ strt T = T := ⟨strt t, t.loop, rfl, rfl⟩
  have hlp : T.loop = -1 := (congrArg Trc.loop hT).symm
  have HS : TrcIn w T a b := by have := HT0.strt; rwa [show strt ⟨T.init, T.rows, lp⟩ = strt T from rfl, hT] at this
  show CVN Tryz.prog 11 [.agg (ccells c h).toArray, nu n, .agg #[.slice a.1 T.init.length a.2, .slice b.1 T.rows.length b.2, nu lp]] w fun v N => (mtE c n T = 0 ∧ MdR c (strt T) n.toNat v N) ∨ (mtE c n T ≠ 0 ∧ v = .tuple #[.slice none 0 0, nu (mtE c n T)] ∧ N = [])
  rw [hT]
  have hvr : ∀ Γ, In Γ (.old w none_) → ∀ w', Mem w' Γ → CVN Tryz.prog 23 [.agg (ccells c h).toArray, nu n] w' _ := fun Γ hi w' M => VarsR16_cv (H.chg (hi.old M))
  have hRow := HS.rows
  have hlr := HS.lr
  refine CVN.enter 94 [6, 7] Tryz.func11 rfl rfl rfl (by decide) rfl ?_
  by_cases hz : vrE c n = 0
  · obtain ⟨he, n1, n2, n3⟩ := vrE_zero hz
    have R := right_of H.at_ H.sane he
    have m0 := R.m0
    have m1 := R.m1
    rw [hz, vrM_ok hz] at hvr
    by_cases hl : (T.rows.length : Int) = n
    · have hft : ∀ Γ, In Γ (.old w none_) → ∀ w', Mem w' Γ → CVN Tryz.prog 30 [.agg (ccells c h).toArray, .agg #[.slice a.1 T.init.length a.2, .slice b.1 T.rows.length b.2, nu (-1)]] w' fun v N => N = [] ∧ v = .bool (fitsM c T) := fun Γ hi w' M => by
        have := Fits_cv (H.at_.chg (hi.old M)) ⟨R.nLat, R.nIn⟩ (HS.chg (hi.old M))
        unfold tcs at this
        rw [hlp] at this
        exact this
      by_cases F : Fit c T
      · have hr := runE_fit he F
        rw [fitsM_iff.2 F] at hft
        have hbg : ∀ Γ, In Γ (.old w none_) → ∀ w', Mem w' Γ → CVN Tryz.prog 31 [.agg (ccells c h).toArray, .agg #[.slice a.1 T.init.length a.2, .slice b.1 T.rows.length b.2, nu (-1)]] w' (BegR c T (startsM c T.init c.latches.length && allH c T T.rows.length)) := fun Γ hi w' M => by
          have := Begun_cv (H.chg (hi.old M)) (HS.chg (hi.old M)) he F
          unfold tcs at this
          rw [hlp] at this
          exact this
        have hord : ∀ Γ, In Γ (.old w none_) → ∀ w', Mem w' Γ → CVN Tryz.prog 32 [.agg (ccells c h).toArray] w' (OrdR c) := fun Γ hi w' M => OrderRefG (H.at_.chg (hi.old M)) H.sane H.okay H.fits
        cases hs : (startsM c T.init c.latches.length && allH c T T.rows.length)
        · have e0 := mtE_no hz hl (by rw [hT]; exact hr) (by rw [hT]; exact hs)
          rw [hs] at hbg
          rw [e0]
          repeat' (first
|(apply G_call;eq_refl;eq_refl;(apply hvr;(repeat first|exact In.here|apply In.there|apply In.skip));rintro _ _ ⟨rfl, rfl⟩)
|(apply G_call;eq_refl;eq_refl;(apply hft;(repeat first|exact In.here|apply In.there|apply In.skip));rintro _ _ ⟨rfl, rfl⟩)
|(apply G_call;eq_refl;eq_refl;(apply hbg;(repeat first|exact In.here|apply In.there|apply In.skip));rintro _ _ (⟨hh, _⟩|⟨_, i, ε, hε, rfl, rfl⟩);(exact absurd hh (by decide)))
|(apply GC_seqK;intro K hK)
|(apply hK;clear hK K)
|(apply GC_region)
|(apply GL_nil)
|(apply thenG_normal)
|(apply thenG_ret)
|(apply GC_ret)
|(apply GC_skip)
|(apply GC_if_true;eq_refl)
|(apply GC_if_false;eq_refl)
|(apply retG2;eq_refl;eq_refl)
|(apply GL_on;eq_refl;eq_refl)
|(apply G_pv;eq_refl;first|exact trivial|omega)
|(apply G_field;eq_refl)
|(apply G_ld;eq_refl;(repeat first|exact In.here|apply In.there|apply In.skip);eq_refl)
|(apply G_ldW;eq_refl;(repeat first|exact In.here|apply In.there|apply In.skip);eq_refl)
|(apply G_cmpT;eq_refl;eq_refl;omega)
|(apply G_cmpF;eq_refl;eq_refl;omega)
|(apply G_len;eq_refl)
|(apply G_box;eq_refl;eq_refl;intro _)
|(apply G_st;(first|exact wr_p|kernel_rfl);eq_refl;eq_refl;eq_refl;eq_refl;(repeat first|exact Upd.here|apply Upd.there|apply Upd.skip);(first|decide|exact Nat.le_of_ble_eq_true rfl)))
          exact ⟨[], (by repeat first | exact Wk.nil | exact Wk.refl | (apply Wk.cons; (focus ((repeat first | exact Rem.here | apply Rem.there | apply Rem.skip); done))) | apply Wk.nilv | apply Wk.last | apply Wk.drop), .inr ⟨by decide, rfl, rfl⟩⟩
        · have e0 := mtE_ok hz hl (by rw [hT]; exact hr) (by rw [hT]; exact hs)
          rw [hs] at hbg
          rw [e0]
          obtain ⟨z0, z1⟩ := mul_le (by omega : 0 ≤ n) (by omega : n ≤ 600) m0 m1
          repeat' (first
|(apply G_call;eq_refl;eq_refl;(apply hvr;(repeat first|exact In.here|apply In.there|apply In.skip));rintro _ _ ⟨rfl, rfl⟩)
|(apply G_call;eq_refl;eq_refl;(apply hft;(repeat first|exact In.here|apply In.there|apply In.skip));rintro _ _ ⟨rfl, rfl⟩)
|(apply G_call;eq_refl;eq_refl;(apply hbg;(repeat first|exact In.here|apply In.there|apply In.skip));rintro _ _ (⟨_, ps, A9, k9, A8, k8, rfl, hps, rfl⟩|⟨hh, _⟩);rotate_left;(exact absurd hh (by decide)))
|(apply G_call;eq_refl;eq_refl;(apply hord;(repeat first|exact In.here|apply In.there|apply In.skip));rintro _ _ (⟨he', rfl, rfl⟩|⟨_, A1, k1, rfl, rfl⟩);(exact absurd he he'))
|(apply G_makeI booc;eq_refl;eq_refl;omega;eq_refl;omega;decide;intro b14)
|(apply GC_seqK;intro K hK)
|(apply hK;clear hK K)
|(apply GC_block)
|(apply GC_region)
|(apply GL_nil)
|(apply thenG_normal)
|(apply GC_skip)
|(apply GC_if_false;eq_refl)
|(apply GL_on;eq_refl;eq_refl)
|(apply G_pv;eq_refl;first|exact trivial|omega)
|(apply G_field;eq_refl)
|(apply G_ld;eq_refl;(repeat first|exact In.here|apply In.there|apply In.skip);eq_refl)
|(apply G_ldW;eq_refl;(repeat first|exact In.here|apply In.there|apply In.skip);eq_refl)
|(apply G_cmpF;eq_refl;eq_refl;omega)
|(apply G_len;eq_refl)
|(apply G_box;eq_refl;eq_refl;intro _)
|(apply G_st;(first|exact wr_p|kernel_rfl);eq_refl;eq_refl;eq_refl;eq_refl;(repeat first|exact Upd.here|apply Upd.there|apply Upd.skip);(first|decide|exact Nat.le_of_ble_eq_true rfl)))
          obtain ⟨q, rfl⟩ : ∃ q : Nat, n = (q : Int) := ⟨n.toNat, by omega⟩
          have hpl : ps.length = q := by rw [map_len hps, runM_len]; omega
          have hq : T.rows.length = q := by omega
          have hV : ∀ k : Nat, k < q → ∀ Γ, In Γ (.old w none_) → In Γ (.vec icell 1 3 A1 k1 (ordM c)) → In Γ (.any (bun (runB ps A9 k9))) → ∀ w', Mem w' Γ → CVN Tryz.prog 33 [.agg (ccells c h).toArray, .slice A1 (ordM c).length k1, .slice (gt ps (k : Int)).1.1.1 (gt ps (k : Int)).2.state.length (gt ps (k : Int)).1.1.2, .slice (gt T.rows (k : Int)).1.1 (gt T.rows (k : Int)).2.length (gt T.rows (k : Int)).1.2] w' fun v N => ∃ A' k', v = .slice A' (vk c T k).length k' ∧ N = [.vec booc 1 4 A' k' (vk c T k)] := fun k hk Γ hi hv hb w' M => by
            have g1 := gt_mem (l := ps) (i := (k : Int)) (by omega) (by omega)
            have g2 := gt_mem (l := T.rows) (i := (k : Int)) (by omega) (by omega)
            have e1 : (gt ps (k : Int)).2.state = stM c T k := by rw [gt_run hps (by omega)]; rfl
            have := Values0_cv (k1 := k1) (k2 := (gt ps (k : Int)).1.1.2) (k3 := (gt T.rows (k : Int)).1.2) R (H.at_.chg (hi.old M)) (hv.row M) ((MomsIn.bun hb M).st _ g1) ((HS.each _ g2).chg (hi.old M)) (by rw [e1]; exact stM_len F.init k) (F.rows _ g2)
            have e3 : valM c (gt ps (k : Int)).2.state (gt T.rows (k : Int)).2 = vk c T k := by rw [e1]; rfl
            rwa [e3] at this
          have hat : ∀ (k i : Nat), (k : Int) < q → (i : Int) + 1 ≤ c.max → ∀ Γ, ∀ w', Mem w' Γ → CVN Tryz.prog 24 [.agg (ccells c h).toArray, nu (2 * ((i + 1 : Nat) : Int)), nu (k : Int)] w' fun v N => N = [] ∧ v = nu ((k : Int) * c.max + ((i : Int) + 1) + 1) := fun k i hk hi Γ w' M => by
            obtain ⟨z0, z1⟩ := mul_le (by omega : 0 ≤ (k : Int)) (by omega : (k : Int) ≤ 600) m0 m1
            have := lit16_cv (w := w') (h := h) (c := c) (l := 2 * ((i + 1 : Nat) : Int)) (t := (k : Int)) (by omega) (by omega) z0 z1
            have e : atM c.max (2 * ((i + 1 : Nat) : Int)) (k : Int) = (k : Int) * c.max + ((i : Int) + 1) + 1 := by
              unfold atM
              rw [if_neg (by omega), if_pos (by omega)]
              omega
            rwa [e] at this
          have hVl : ∀ k, (vk c T k).length = (c.max + 1).toNat := fun k => valM_len c _ _
          rename_i b3 b5 hq1 hq2
          refine GC_loopK [1, 3, 5, 10, 13, 15] (fun s : Nat × List Bool => [(16, nu s.1)]) (fun s => [.vec booc 1 4 (some ⟨b14, 0, none⟩) (1 + (q : Int) * c.max).toNat s.2, .vec icell 1 3 A1 k1 (ordM c), .any (bun (runB ps A9 k9)), .box b5 33 [.slice a.1 T.init.length a.2, .slice b.1 T.rows.length b.2, nu (-1)], .box b3 29 (ccells c h), .old w none_])
            (fun s => s.1 ≤ q ∧ PartM c T q s.1 0 s.2) (fun s => q - s.1) (0, List.replicate (1 + (q : Int) * c.max).toNat false) (by repeat first | exact Pick.nil | (apply Pick.cons; eq_refl)) (by repeat first | exact trivial | refine ⟨rfl, ?_⟩) (by repeat first | exact Wk.nil | exact Wk.refl | (apply Wk.cons; (focus ((repeat first | exact Rem.here | apply Rem.there | apply Rem.skip); done))) | apply Wk.nilv | apply Wk.last | apply Wk.drop) ⟨Nat.zero_le _, PartM.start (by omega)⟩ ?_
          rintro ⟨k, out⟩ ⟨hk, hP⟩
          dsimp only at hk hP ⊢
          have hol := hP.len
          rcases Nat.lt_or_ge k q with hlt | hge
          · have hv := hV k hlt
            have hvl := hVl k
            have hnw : ∀ i : Nat, (i : Int) + 1 ≤ c.max → 0 ≤ (k : Int) * c.max + ((i : Int) + 1) ∧ (k : Int) * c.max + ((i : Int) + 1) < 1 + (q : Int) * c.max := fun i hi => by
              have := row_lt hlt m0
              have := Int.mul_nonneg (by omega : 0 ≤ (k : Int)) m0
              omega
            have hst9 : ∀ i : Nat, ∀ o : List Bool, PartM c T q k i o → (i : Int) + 1 ≤ c.max → PartM c T q k (i + 1) (o.set ((k : Int) * c.max + ((i : Int) + 1)).toNat (gt (vk c T k) ((i + 1 : Nat) : Int))) := fun i o h9 hi => h9.set hlt hi
            have hat9 := hat k
            generalize (k : Int) * c.max = z at *
            repeat' (first
|(apply G_rdF;eq_refl;(apply RdB.runs;(repeat first|exact In.here|apply In.there|apply In.skip));(case ih => infer_instance);omega;omega;eq_refl)
|(apply G_ix;eq_refl;eq_refl;(apply RdB.runs;(repeat first|exact In.here|apply In.there|apply In.skip));(first|eq_refl|omega);omega;omega)
|(apply G_call;eq_refl;eq_refl;(apply hv;(repeat first|exact In.here|apply In.there|apply In.skip);(repeat first|exact In.here|apply In.there|apply In.skip);(repeat first|exact In.here|apply In.there|apply In.skip));rintro _ _ ⟨A17, k17, rfl, rfl⟩)
|(apply GC_seqK;intro K hK)
|(apply hK;clear hK K)
|(apply GC_block)
|(apply GC_region)
|(apply GL_nil)
|(apply thenG_normal)
|(apply GC_skip)
|(apply GC_if_true;eq_refl)
|(apply GL_on;eq_refl;eq_refl)
|(refine GC_draws (id := 15) [.q 0, .q 1, .q 2, .q 3, .q 4, .q 5, .q 6, .q 7, .q 8, .q 9, .q 10, .q 11, .c 12, .q 13] mixed (by kernel_rfl) (by kernel_rfl) ?_)
|(apply GS_nil)
|(apply GS_qon;eq_refl;eq_refl;eq_refl;eq_refl)
|(apply GS_con;eq_refl;eq_refl;eq_refl;eq_refl)
|(apply G_pv;eq_refl;first|exact trivial|omega)
|(apply G_field;eq_refl)
|(apply G_fieldP;eq_refl)
|(apply G_ld;eq_refl;(repeat first|exact In.here|apply In.there|apply In.skip);eq_refl)
|(apply G_ldW;eq_refl;(repeat first|exact In.here|apply In.there|apply In.skip);eq_refl)
|(apply G_rd;eq_refl;(first|(apply Rd.own;(repeat first|exact In.here|apply In.there|apply In.skip);infer_instance)|(apply Rd.old;(repeat first|exact In.here|apply In.there|apply In.skip);assumption)|(apply Rd.oldR;(repeat first|exact In.here|apply In.there|apply In.skip);assumption)|exact Rd.nil|assumption);(case ih => infer_instance);omega;omega;eq_refl)
|(apply G_cmpT;eq_refl;eq_refl;omega)
|(apply G_ix;eq_refl;eq_refl;(first|(apply Rd.own;(repeat first|exact In.here|apply In.there|apply In.skip);infer_instance)|(apply Rd.old;(repeat first|exact In.here|apply In.there|apply In.skip);assumption)|(apply Rd.oldR;(repeat first|exact In.here|apply In.there|apply In.skip);assumption)|exact Rd.nil|assumption);(first|eq_refl|omega);omega;omega))
            refine GC_loopK [1, 3, 5, 10, 13, 15, 16, 17] (fun s : Nat × List Bool => [(18, nu ((s.1 + 1 : Nat) : Int))]) (fun s => [.vec booc 1 4 (some ⟨b14, 0, none⟩) (1 + (q : Int) * c.max).toNat s.2, .vec booc 1 4 A17 k17 (vk c T k), .vec icell 1 3 A1 k1 (ordM c), .any (bun (runB ps A9 k9)), .box b5 33 [.slice a.1 T.init.length a.2, .slice b.1 T.rows.length b.2, nu (-1)], .box b3 29 (ccells c h), .old w none_])
              (fun s => (s.1 : Int) ≤ c.max ∧ PartM c T q k s.1 s.2) (fun s => c.max.toNat - s.1) (0, out) (by repeat first | exact Pick.nil | (apply Pick.cons; eq_refl)) (by repeat first | exact trivial | refine ⟨rfl, ?_⟩) (by repeat first | exact Wk.nil | exact Wk.refl | (apply Wk.cons; (focus ((repeat first | exact Rem.here | apply Rem.there | apply Rem.skip); done))) | apply Wk.nilv | apply Wk.last | apply Wk.drop) ⟨by dsimp only; omega, hP⟩ ?_
            rintro ⟨i, o⟩ ⟨hi, hO⟩
            dsimp only at hi hO ⊢
            have hol2 := hO.len
            rcases Int.lt_or_le (i : Int) c.max with hlt2 | hge2
            · have h9 := hst9 i o hO (by omega)
              have ha := hat9 i (by omega) (by omega)
              have hw9 := hnw i (by omega)
              repeat' (first
|(apply G_call;eq_refl;eq_refl;(apply ha);rintro _ _ ⟨rfl, rfl⟩)
|(apply GC_seqK;intro K hK)
|(apply hK;clear hK K)
|(apply GC_block)
|(apply GC_region)
|(apply GL_nil)
|(apply thenG_normal)
|(apply blockG_normal)
|(apply GC_skip)
|(apply GC_if_true;eq_refl)
|(apply GL_on;eq_refl;eq_refl)
|(refine GC_draws (id := 19) [.q 0, .q 1, .q 2, .q 3, .q 4, .q 7, .q 8, .q 9, .q 10, .c 5, .q 6, .q 11, .c 12] mixed (by kernel_rfl) (by kernel_rfl) ?_)
|(apply GS_nil)
|(apply GS_qon;eq_refl;eq_refl;eq_refl;eq_refl)
|(apply GS_con;eq_refl;eq_refl;eq_refl;eq_refl)
|(apply G_pv;eq_refl;first|exact trivial|omega)
|(apply G_field;eq_refl)
|(apply G_ld;eq_refl;(repeat first|exact In.here|apply In.there|apply In.skip);eq_refl)
|(apply G_ldW;eq_refl;(repeat first|exact In.here|apply In.there|apply In.skip);eq_refl)
|(apply G_rd;eq_refl;(first|(apply Rd.own;(repeat first|exact In.here|apply In.there|apply In.skip);infer_instance)|(apply Rd.old;(repeat first|exact In.here|apply In.there|apply In.skip);assumption)|(apply Rd.oldR;(repeat first|exact In.here|apply In.there|apply In.skip);assumption)|exact Rd.nil|assumption);(case ih => infer_instance);omega;omega;eq_refl)
|(apply G_cmpT;eq_refl;eq_refl;omega)
|(apply G_ix;eq_refl;eq_refl;(first|(apply Rd.own;(repeat first|exact In.here|apply In.there|apply In.skip);infer_instance)|(apply Rd.old;(repeat first|exact In.here|apply In.there|apply In.skip);assumption)|(apply Rd.oldR;(repeat first|exact In.here|apply In.there|apply In.skip);assumption)|exact Rd.nil|assumption);(first|eq_refl|omega);omega;omega)
|(apply G_stV;(first|exact wr_p|kernel_rfl);eq_refl;eq_refl;eq_refl;eq_refl;(repeat first|exact Upd.here|apply Upd.there|apply Upd.skip);infer_instance;infer_instance;eq_refl;omega;(try simp only [List.length_set, List.length_append, List.length_replicate]);omega))
              refine ⟨(i + 1, o.set (z + ((i : Int) + 1) + 1 - 1).toNat (gt (vk c T k) ((i + 1 : Nat) : Int))), (by repeat first | exact trivial | refine ⟨rfl, ?_⟩), (by repeat first | exact Wk.nil | exact Wk.refl | (apply Wk.cons; (focus ((repeat first | exact Rem.here | apply Rem.there | apply Rem.skip); done))) | apply Wk.nilv | apply Wk.last | apply Wk.drop), ⟨by dsimp only; omega, ?_⟩, by dsimp only; omega⟩
              dsimp only
              rw [show z + ((i : Int) + 1) + 1 - 1 = z + ((i : Int) + 1) by omega]
              exact h9
            · repeat' (first
|(apply GC_seqK;intro K hK)
|(apply hK;clear hK K)
|(clear hK K;apply hK;clear hK K)
|(apply GC_region)
|(apply GL_nil)
|(apply thenG_normal)
|(apply thenG_exit)
|(apply blockG_hit)
|(apply blockG_normal)
|(apply GC_exit)
|(apply GC_if_false;eq_refl)
|(apply GL_on;eq_refl;eq_refl)
|(apply G_pv;eq_refl;first|exact trivial|omega)
|(apply G_field;eq_refl)
|(apply G_ld;eq_refl;(repeat first|exact In.here|apply In.there|apply In.skip);eq_refl)
|(apply G_cmpF;eq_refl;eq_refl;omega))
              exact ⟨(k + 1, o), (by repeat first | exact trivial | refine ⟨rfl, ?_⟩), (by repeat first | exact Wk.nil | exact Wk.refl | (apply Wk.cons; (focus ((repeat first | exact Rem.here | apply Rem.there | apply Rem.skip); done))) | apply Wk.nilv | apply Wk.last | apply Wk.drop), ⟨hlt, hO.next (by omega)⟩, by dsimp only; omega⟩
          · obtain rfl : k = q := by omega
            repeat' (first
|(apply GC_seqK;intro K hK)
|(apply hK;clear hK K)
|(clear hK K;apply hK;clear hK K)
|(apply GC_region)
|(apply GL_nil)
|(apply thenG_normal)
|(apply thenG_exit)
|(apply blockG_hit)
|(apply GC_ret)
|(apply GC_exit)
|(apply GC_if_false;eq_refl)
|(apply retG2;eq_refl;eq_refl)
|(apply GL_on;eq_refl;eq_refl)
|(apply G_pv;eq_refl;first|exact trivial|omega)
|(apply G_cmpF;eq_refl;eq_refl;omega))
            exact ⟨[.vec booc 1 4 (some ⟨b14, 0, none⟩) (1 + (k : Int) * c.max).toNat out], (by repeat first | exact Wk.nil | exact Wk.refl | (apply Wk.cons; (focus ((repeat first | exact Rem.here | apply Rem.there | apply Rem.skip); done))) | apply Wk.nilv | apply Wk.last | apply Wk.drop), .inl ⟨rfl, out, _, _, by rw [show out.length = (1 + (k : Int) * c.max).toNat by omega], hP.done, rfl⟩⟩
      · have hr := runE_not (t := T) he F
        have e0 := mtE_run hz hl (by rw [hT, hr]; decide)
        rw [hT, hr] at e0
        rw [fitsM_false F] at hft
        rw [e0]
        repeat' (first
|(apply G_call;eq_refl;eq_refl;(apply hvr;(repeat first|exact In.here|apply In.there|apply In.skip));rintro _ _ ⟨rfl, rfl⟩)
|(apply G_call;eq_refl;eq_refl;(apply hft;(repeat first|exact In.here|apply In.there|apply In.skip));rintro _ _ ⟨rfl, rfl⟩)
|(apply GC_seqK;intro K hK)
|(apply hK;clear hK K)
|(apply GC_region)
|(apply GL_nil)
|(apply thenG_normal)
|(apply thenG_ret)
|(apply GC_ret)
|(apply GC_skip)
|(apply GC_if_true;eq_refl)
|(apply GC_if_false;eq_refl)
|(apply retG2;eq_refl;eq_refl)
|(apply GL_on;eq_refl;eq_refl)
|(apply G_pv;eq_refl;first|exact trivial|omega)
|(apply G_field;eq_refl)
|(apply G_ld;eq_refl;(repeat first|exact In.here|apply In.there|apply In.skip);eq_refl)
|(apply G_ldW;eq_refl;(repeat first|exact In.here|apply In.there|apply In.skip);eq_refl)
|(apply G_cmpF;eq_refl;eq_refl;omega)
|(apply G_len;eq_refl)
|(apply G_box;eq_refl;eq_refl;intro _)
|(apply G_st;(first|exact wr_p|kernel_rfl);eq_refl;eq_refl;eq_refl;eq_refl;(repeat first|exact Upd.here|apply Upd.there|apply Upd.skip);(first|decide|exact Nat.le_of_ble_eq_true rfl)))
        exact ⟨[], (by repeat first | exact Wk.nil | exact Wk.refl | (apply Wk.cons; (focus ((repeat first | exact Rem.here | apply Rem.there | apply Rem.skip); done))) | apply Wk.nilv | apply Wk.last | apply Wk.drop), .inr ⟨by decide, rfl, rfl⟩⟩
    · have e0 := mtE_len hz hl
      rw [e0]
      repeat' (first
|(apply G_call;eq_refl;eq_refl;(apply hvr;(repeat first|exact In.here|apply In.there|apply In.skip));rintro _ _ ⟨rfl, rfl⟩)
|(apply GC_seqK;intro K hK)
|(apply hK;clear hK K)
|(apply GC_region)
|(apply GL_nil)
|(apply thenG_normal)
|(apply thenG_ret)
|(apply GC_ret)
|(apply GC_skip)
|(apply GC_if_true;eq_refl)
|(apply GC_if_false;eq_refl)
|(apply retG2;eq_refl;eq_refl)
|(apply GL_on;eq_refl;eq_refl)
|(apply GL_off;eq_refl;eq_refl)
|(apply G_pv;eq_refl;first|exact trivial|omega)
|(apply G_field;eq_refl)
|(apply G_ld;eq_refl;(repeat first|exact In.here|apply In.there|apply In.skip);eq_refl)
|(apply G_ldW;eq_refl;(repeat first|exact In.here|apply In.there|apply In.skip);eq_refl)
|(apply G_cmpT;eq_refl;eq_refl;omega)
|(apply G_cmpF;eq_refl;eq_refl;omega)
|(apply G_len;eq_refl)
|(apply G_box;eq_refl;eq_refl;intro _)
|(apply G_st;(first|exact wr_p|kernel_rfl);eq_refl;eq_refl;eq_refl;eq_refl;(repeat first|exact Upd.here|apply Upd.there|apply Upd.skip);(first|decide|exact Nat.le_of_ble_eq_true rfl)))
      exact ⟨[], (by repeat first | exact Wk.nil | exact Wk.refl | (apply Wk.cons; (focus ((repeat first | exact Rem.here | apply Rem.there | apply Rem.skip); done))) | apply Wk.nilv | apply Wk.last | apply Wk.drop), .inr ⟨by decide, rfl, rfl⟩⟩
  · have e0 := mtE_vr (t := T) hz
    rw [e0]
    rw [vrM_no hz] at hvr
    generalize vrE c n = ε at *
    repeat' (first
|(apply G_call;eq_refl;eq_refl;(apply hvr;(repeat first|exact In.here|apply In.there|apply In.skip));rintro _ _ ⟨rfl, rfl⟩)
|(apply GC_seqK;intro K hK)
|(apply hK;clear hK K)
|(apply GC_region)
|(apply GL_nil)
|(apply thenG_normal)
|(apply thenG_ret)
|(apply GC_ret)
|(apply GC_if_true;eq_refl)
|(apply retG2;eq_refl;eq_refl)
|(apply GL_on;eq_refl;eq_refl)
|(apply G_pv;eq_refl;first|exact trivial|omega)
|(apply G_ldW;eq_refl;(repeat first|exact In.here|apply In.there|apply In.skip);eq_refl)
|(apply G_cmpT;eq_refl;eq_refl;omega)
|(apply G_box;eq_refl;eq_refl;intro _))
    exact ⟨[], (by repeat first | exact Wk.nil | exact Wk.refl | (apply Wk.cons; (focus ((repeat first | exact Rem.here | apply Rem.there | apply Rem.skip); done))) | apply Wk.nilv | apply Wk.last | apply Wk.drop), .inr ⟨hz, rfl, rfl⟩⟩
end SC
end Go.Proofs.YtbmngkdnebklpaaGreat
end
section
/- trestlebook: SpoilTrace. -/
set_option linter.unusedVariables false
set_option linter.unusedSimpArgs false
namespace Go.Proofs.YtbmngkdnebklpaaGreat
namespace SC
open Go.Proofs
attribute [local irreducible] WC WL WX WS WO OX Does DoesU Enters CV Pure thenQ blockQ retQ Wants retQC GC GL GS GX RdB thenG blockG retG Rd At gt CVN CVM
attribute [local irreducible] fam
set_option maxRecDepth 100000
set_option maxHeartbeats 800000 in
theorem spoilTrace_cv {w : World} {t : Trc} {a b : Hdl} (hi : t.init.length ≤ 140737488351232) (hn : t.rows.length ≤ 5864062014634) (hr : ∀ p ∈ t.rows, p.2.length ≤ 140737488351232) (M : Mem w (trcB t a b)) : CVM Tryz.prog 14 [.agg (tcs t a b).toArray] w (trcB t a b) fun v N => N = [] := by
  have h6 : ∀ (A : Option Addr) (k' : Nat) (l : List Bool), l.length ≤ 140737488351232 → ∀ w', Mem w' [.vec booc 1 4 A k' l] → CVM Tryz.prog 15 [.slice A l.length k'] w' [.vec booc 1 4 A k' l] _ := fun A k' l hl w' M => spoilBools_cv M (by omega)
  refine CVM.enter 19 [] Tryz.func14 rfl rfl rfl (by decide) rfl M ?_
  repeat' (first
|(apply G_callM2;exact wr_p;eq_refl;(exact h6 a.1 a.2 t.init hi);(repeat first|exact Rems.nil|(apply Rems.cons;(focus ((repeat first|exact Rem.here|apply Rem.there|apply Rem.skip);done))));rintro _ _ ⟨rfl, l9, hl9, rfl⟩)
|(apply GC_seqK;intro K hK)
|(apply hK;clear hK K)
|(apply GC_block)
|(apply GC_region)
|(apply GL_nil)
|(apply thenG_normal)
|(apply GL_on;eq_refl;eq_refl)
|(apply G_pv;eq_refl;first|exact trivial|omega)
|(apply G_field;eq_refl)
|(apply G_ld;eq_refl;(repeat first|exact In.here|apply In.there|apply In.skip);eq_refl)
|(apply G_box;eq_refl;eq_refl;intro _))
  rename_i b1
  refine GC_loopK [1] (fun i : Nat => [(2, nu i)]) (fun i => .vec encS 1 30 b.1 b.2 t.rows :: .box b1 33 (tcs t a b) :: .old w (owns (trcB t a b)) :: fam rowE (t.rows.drop i)) (fun i => i ≤ t.rows.length) (fun i => t.rows.length - i) 0 (by repeat first | exact Pick.nil | (apply Pick.cons; eq_refl)) (by repeat first | exact trivial | refine ⟨rfl, ?_⟩) (by repeat first | exact Wk.left | exact Wk.nil | exact Wk.refl | (apply Wk.cons; (focus ((repeat first | exact Rem.here | apply Rem.there | apply Rem.skip); done))) | apply Wk.nilv | apply Wk.last | apply Wk.drop) (Nat.zero_le _) ?_
  intro i hi2
  rcases Nat.lt_or_ge i t.rows.length with hlt | hge
  · have e1 := List.drop_eq_getElem_cons hlt
    have hm := hr _ (gt_mem (l := t.rows) (i := (i : Int)) (by omega) (by omega))
    rw [← gt_nat hlt] at e1
    rw [e1, fam_cons]
    generalize hx : gt t.rows (i : Int) = x at *
    obtain ⟨x1, l1⟩ := x
    rw [show rowE (x1, l1) = [.vec booc 1 4 x1.1 x1.2 l1] from rfl]
    repeat' (first
|(apply G_callM2;exact wr_p;eq_refl;(exact h6 x1.1 x1.2 l1 hm);(repeat first|exact Rems.nil|(apply Rems.cons;(focus ((repeat first|exact Rem.here|apply Rem.there|apply Rem.skip);done))));rintro _ _ ⟨rfl, l9, hl9, rfl⟩)
|(apply G_rd;eq_refl;(first|(apply Rd.own;(repeat first|exact In.here|apply In.there|apply In.skip);infer_instance)|(apply Rd.old;(repeat first|exact In.here|apply In.there|apply In.skip);assumption)|(apply Rd.oldR;(repeat first|exact In.here|apply In.there|apply In.skip);assumption)|exact Rd.nil|assumption);(case ih => infer_instance);omega;omega;(rw [hx];dsimp only [encS];eq_refl))
|(apply GC_seqK;intro K hK)
|(apply hK;clear hK K)
|(apply GC_block)
|(apply GC_region)
|(apply GL_nil)
|(apply thenG_normal)
|(apply blockG_normal)
|(apply GC_skip)
|(apply GC_if_true;eq_refl)
|(apply GL_on;eq_refl;eq_refl)
|(apply G_pv;eq_refl;first|exact trivial|omega)
|(apply G_field;eq_refl)
|(apply G_ld;eq_refl;(repeat first|exact In.here|apply In.there|apply In.skip);eq_refl)
|(apply G_cmpT;eq_refl;eq_refl;omega)
|(apply G_len;eq_refl)
|(apply G_ix;eq_refl;eq_refl;(first|(apply Rd.own;(repeat first|exact In.here|apply In.there|apply In.skip);infer_instance)|(apply Rd.old;(repeat first|exact In.here|apply In.there|apply In.skip);assumption)|(apply Rd.oldR;(repeat first|exact In.here|apply In.there|apply In.skip);assumption)|exact Rd.nil|assumption);(first|eq_refl|omega);omega;omega))
    exact ⟨i + 1, (by repeat first | exact trivial | refine ⟨rfl, ?_⟩), (by repeat first | exact Wk.left | exact Wk.nil | exact Wk.refl | (apply Wk.cons; (focus ((repeat first | exact Rem.here | apply Rem.there | apply Rem.skip); done))) | apply Wk.nilv | apply Wk.last | apply Wk.drop), hlt, by omega⟩
  · repeat' (first
|(apply GC_seqK;intro K hK)
|(apply hK;clear hK K)
|(apply GC_region)
|(apply GL_nil)
|(apply thenG_normal)
|(apply thenG_exit)
|(apply blockG_hit)
|(apply GC_exit)
|(apply GC_if_false;eq_refl)
|(apply retG0n)
|(apply GL_on;eq_refl;eq_refl)
|(apply G_pv;eq_refl;first|exact trivial|omega)
|(apply G_field;eq_refl)
|(apply G_ld;eq_refl;(repeat first|exact In.here|apply In.there|apply In.skip);eq_refl)
|(apply G_cmpF;eq_refl;eq_refl;omega)
|(apply G_len;eq_refl))
    exact ⟨[], (Wk.there (by repeat first | exact Wk.one | apply Wk.drop)), rfl⟩
end SC
end Go.Proofs.YtbmngkdnebklpaaGreat
end
section
/- trestlelaw16: FramesModels: the walk. -/
set_option linter.unusedVariables false
set_option linter.unusedSimpArgs false
namespace Go.Proofs.YtbmngkdnebklpaaGreat
namespace SC
open Go.Proofs
/-- The model of a run, said. -/
noncomputable def mdl (c : Circ) (t : Trc) (n : Nat) : List Bool := (List.range (1 + n * c.max.toNat)).map fun i => if i = 0 then false else gt (vk c t ((i - 1) / c.max.toNat)) (((i - 1) % c.max.toNat : Nat) + 1 : Int)
theorem GoodM.eq {c : Circ} {t : Trc} {n : Nat} {out : List Bool} (m0 : 0 ≤ c.max) (h : GoodM c t n out) : out = mdl c t n := by
  obtain ⟨M, hM⟩ : ∃ M : Nat, c.max = (M : Int) := ⟨c.max.toNat, by omega⟩
  have hl := h.len
  have h0 := h.zero
  have hat := h.at_
  rw [hM] at hl hat
  unfold mdl
  rw [hM, Int.toNat_natCast]
  have hl2 : out.length = 1 + n * M := by rw [← Int.natCast_mul] at hl; omega
  apply List.ext_getElem (by rw [List.length_map, List.length_range, hl2])
  intro i h1 h2
  rw [List.getElem_map, List.getElem_range]
  rcases i with _ | j
  · rw [if_pos rfl, ← gt_nat h1]
    exact h0
  · rw [if_neg (by omega), ← gt_nat h1, Nat.add_sub_cancel]
    have hM0 : 0 < M := by
      rcases Nat.eq_zero_or_pos M with e | e
      · rw [e, Nat.mul_zero] at hl2
        omega
      · exact e
    have hk : j / M < n := Nat.div_lt_of_lt_mul (by rw [Nat.mul_comm]; omega)
    have hr := Nat.mod_lt j hM0
    have := hat (j / M) hk (((j % M : Nat) : Int) + 1) (by omega) (by omega)
    rw [← this]
    congr 1
    have e := Nat.div_add_mod j M
    rw [← Int.natCast_mul, Nat.mul_comm (j / M) M]
    omega
theorem TrcEq.strt {t t' : Trc} (E : TrcEq t t') : TrcEq (strt t) (strt t') := ⟨E.init, rfl, E.rows⟩
theorem TrcEq.vk {c : Circ} {t t' : Trc} (E : TrcEq t t') (k : Nat) : vk c t k = vk c t' k := by unfold SC.vk; rw [E.st k, map_snd_get E.rows k]
theorem TrcEq.allH {c : Circ} {t t' : Trc} (E : TrcEq t t') (n : Nat) : allH c t n = allH c t' n := by
  unfold SC.allH
  congr 1
  funext k
  rw [E.vk k]
theorem TrcEq.mdl {c : Circ} {t t' : Trc} (E : TrcEq t t') (n : Nat) : mdl c t n = mdl c t' n := by
  unfold SC.mdl
  congr 1
  funext i
  rw [E.vk]
theorem TrcEq.mtE {c : Circ} {n : Int} {t t' : Trc} (E : TrcEq t t') : mtE c n t = mtE c n t' := by
  have e3 := congrArg List.length E.rows
  simp only [List.length_map] at e3
  unfold SC.mtE
  rw [E.strt.runE, E.init, e3, E.strt.allH]
noncomputable def mdS (c : Circ) (n : Int) (t : Trc) : List Bool := if mtE c n t = 0 then mdl c (strt t) n.toNat else []
theorem TrcEq.mdS {c : Circ} {n : Int} {t t' : Trc} (E : TrcEq t t') : mdS c n t = mdS c n t' := by unfold SC.mdS; rw [E.mtE, E.strt.mdl]
theorem mdS_len (c : Circ) (n : Int) (t : Trc) (m0 : mtE c n t = 0 → 0 ≤ c.max) : (mdS c n t).length ≤ 262144 := by
  unfold mdS
  split
  · rename_i h
    obtain ⟨hv, _⟩ := mtE_zero h
    obtain ⟨_, n1, n2, n3⟩ := vrE_zero hv
    have m0 := m0 h
    unfold mdl
    rw [List.length_map, List.length_range]
    have e : n * c.max = ((n.toNat * c.max.toNat : Nat) : Int) := by rw [Int.natCast_mul, Int.toNat_of_nonneg m0, Int.toNat_of_nonneg (by omega)]
    omega
  · exact Nat.zero_le _
/-- A list of bools and an error. -/
def MdV (ε : Int) (m : List Bool) (v : Value) (N : Mm) : Prop := ∃ A k, v = .tuple #[.slice A m.length k, nu ε] ∧ N = [.vec booc 1 4 A k m]
theorem MdR.to {P : Program} {f : FuncId} {args : List Value} {w : World} {c : Circ} {n : Int} {t : Trc} (m0 : mtE c n t = 0 → 0 ≤ c.max) (h : CVN P f args w fun v N => (mtE c n t = 0 ∧ MdR c (strt t) n.toNat v N) ∨ (mtE c n t ≠ 0 ∧ v = .tuple #[.slice none 0 0, nu (mtE c n t)] ∧ N = [])) : CVN P f args w (MdV (mtE c n t) (mdS c n t)) :=
  h.wk fun v N h9 => by
    rcases h9 with ⟨hm, out, A, k, rfl, G, rfl⟩ | ⟨hm, rfl, rfl⟩
    · have e := G.eq (m0 hm)
      refine ⟨_, Wk.refl, A, k, ?_, ?_⟩
      · unfold mdS
        rw [if_pos hm, ← e, hm]
      · unfold mdS
        rw [if_pos hm, ← e]
    · have e : mdS c n t = [] := if_neg hm
      rw [e]
      exact ⟨[.vec booc 1 4 none 0 []], (by repeat first | exact Wk.nil | exact Wk.refl | (apply Wk.cons; (focus ((repeat first | exact Rem.here | apply Rem.there | apply Rem.skip); done))) | apply Wk.nilv | apply Wk.last | apply Wk.drop), none, 0, rfl, rfl⟩
theorem TrR.to {P : Program} {f : FuncId} {args : List Value} {w : World} {ini : List Bool} {rs : List (List Bool)} {lp ε : Int} (h : CVN P f args w (TrR ini rs lp ε)) : CVN P f args w fun v N => ∃ (t : Trc) (a b : Hdl), (t.init = ini ∧ t.rows.map (·.2) = rs ∧ t.loop = lp) ∧ v = .tuple #[.agg (tcs t a b).toArray, nu ε] ∧ N = [.any (bun (trcB t a b))] :=
  h.bun.mono fun v N ⟨N', ⟨ps, a, b, e1, e2, e3⟩, e4⟩ => ⟨⟨ini, ps, lp⟩, a, b, ⟨rfl, e2, rfl⟩, e1, by rw [e4, e3]⟩
/-- A trace in memory of its own, bound together. -/
theorem trcIn_bun {Γ : Mm} {w : World} {t : Trc} {a b : Hdl} (hi : In Γ (.any (bun (trcB t a b)))) (li : t.init.length ≤ 140737488351232) (lr : t.rows.length ≤ 5864062014634) (le : ∀ p ∈ t.rows, p.2.length ≤ 140737488351232) (lo : fits t.loop) (M : Mem w Γ) : TrcIn w t a b := by
  have M' := hi.bun M
  have h1 : In (trcB t a b) (.vec booc 1 4 a.1 a.2 t.init) := .here
  have h2 : In (trcB t a b) (.vec encS 1 30 b.1 b.2 t.rows) := .there .here
  have hp : ∀ p ∈ t.rows, In (trcB t a b) (.vec booc 1 4 p.1.1 p.1.2 p.2) := fun p hp => .there (.there (In.of (fam_mem hp (by unfold rowE; simp))))
  exact ⟨h1.row M', h2.row M', fun p h => (hp p h).row M', fun h => h1.nil0 M' h, fun h => h2.nil0 M' h, fun p h hA => (hp p h).nil0 M' hA, li, lr, le, lo⟩
/-- What the two traces have in common. -/
structure Small (ini : List Bool) (rs : List (List Bool)) (lp : Int) : Prop where
  init : ini.length ≤ 16384
  rows : rs.length ≤ 512
  each : ∀ l ∈ rs, l.length ≤ 16384
  lo : lp = -1 ∨ lp = 0
theorem tr_small {w : World} {c : Circ} {h js : Hd} (H : CirIn w c h js) (n : Int) (md : List Bool) : Small (if trE c n md = 0 then trI c md else []) (if trE c n md = 0 then trR c md n.toNat else []) (if trE c n md = 0 then -1 else 0) := by
  by_cases hz : trE c n md = 0
  · rw [if_pos hz, if_pos hz, if_pos hz]
    obtain ⟨hv, _⟩ := trE_zero hz
    obtain ⟨he, n1, n2, n3⟩ := vrE_zero hv
    have R := right_of H.at_ H.sane he
    refine ⟨by unfold trI; rw [List.length_map]; exact R.nLat, by unfold trR; rw [List.length_map, List.length_range]; omega, fun l hl => ?_, .inl rfl⟩
    unfold trR at hl
    obtain ⟨k, _, rfl⟩ := List.mem_map.1 hl
    unfold trW
    rw [List.length_map]
    exact R.nIn
  · rw [if_neg hz, if_neg hz, if_neg hz]
    exact ⟨Nat.zero_le _, Nat.zero_le _, (fun l h => by cases h), .inr rfl⟩
theorem sm_in {Γ : Mm} {w : World} {t : Trc} {a b : Hdl} {ini : List Bool} {rs : List (List Bool)} {lp : Int} (s : Small ini rs lp) (e : t.init = ini ∧ t.rows.map (·.2) = rs ∧ t.loop = lp) (hi : In Γ (.any (bun (trcB t a b)))) (M : Mem w Γ) : TrcIn w t a b := by
  obtain ⟨e1, e2, e3⟩ := e
  have hl := map_len e2
  have := s.init
  have := s.rows
  refine trcIn_bun hi (by rw [e1]; omega) (by omega) (fun p hp => ?_) (by rw [e3]; rcases s.lo with h | h <;> rw [h] <;> exact ⟨by decide, by decide⟩) M
  have := s.each p.2 (by rw [← e2]; exact List.mem_map.2 ⟨p, hp, rfl⟩)
  omega
theorem mt_max {w : World} {c : Circ} {h js : Hd} {n : Int} {t : Trc} (H : CirIn w c h js) (hm : mtE c n t = 0) : 0 ≤ c.max := (right_of H.at_ H.sane (vrE_zero (mtE_zero hm).1).1).m0
theorem spoilTrcB {w : World} {t : Trc} {a b : Hdl} {ini : List Bool} {rs : List (List Bool)} {lp : Int} (s : Small ini rs lp) (e : t.init = ini ∧ t.rows.map (·.2) = rs ∧ t.loop = lp) (M : Mem w [.any (bun (trcB t a b))]) : CVM Tryz.prog 14 [.agg (tcs t a b).toArray] w [.any (bun (trcB t a b))] fun v N => N = [] := by
  have T := sm_in s e .here M
  exact CVM.same (spoilTrace_cv T.li T.lr T.le (In.here.bun M)) fun k => owns_bun
attribute [local irreducible] WC WL WX WS WO OX Does DoesU Enters CV Pure thenQ blockQ retQ Wants retQC GC GL GS GX RdB thenG blockG retG Rd At gt CVN CVM
attribute [local irreducible] lentX bun
set_option maxRecDepth 100000
set_option maxHeartbeats 1600000 in
theorem framesModels_cv {w : World} {c : Circ} {h js : Hd} {n : Int} {S : Option Addr} {kS : Nat} {md : List Bool} {t : Trc} {a b : Hdl} (H : CirGot w c h js) (hS : RowA w booc 1 S md) (hmn : md.length ≤ 9223372036854775807) (HT : TrcIn w t a b) :
    CVN Tryz.prog 3 [.agg (ccells c h).toArray, .agg #[nu n, .slice S md.length kS, .slice a.1 t.init.length a.2, .slice b.1 t.rows.length b.2, nu t.loop]] w fun v N => N = [] ∧ v = .bool true := by
  have sm1 := tr_small H.toCirIn n md
  have hml := mdS_len c n t (mt_max H.toCirIn)
  have hL : ∀ Γ, In Γ (.old w none_) → ∀ w', Mem w' Γ → CVN Tryz.prog 6 [.agg (ccells c h).toArray] w' (LendR c) := fun Γ hi w' M => LendG (H.at_.chg (hi.old M)) H.fits1 H.nils
  have hC : ∀ Γ, In Γ (.old w none_) → ∀ w', Mem w' Γ → CVN Tryz.prog 7 [.agg #[.slice a.1 t.init.length a.2, .slice b.1 t.rows.length b.2, nu t.loop]] w' fun v N => ∃ t' a' b', TrcEq t' t ∧ v = .agg (tcs t' a' b').toArray ∧ N = [.any (bun (trcB t' a' b'))] := fun Γ hi w' M => (copyTrace_cv (HT.chg (hi.old M))).bun.mono fun v N ⟨N', ⟨t', a', b', e1, e2, e3⟩, e4⟩ => ⟨t', a', b', e1, e2, by rw [e4, e3]⟩
  have hT1 : ∀ Γ base h' js', In Γ (.any (lentX base c h' js')) → In Γ (.old w none_) → ∀ w', Mem w' Γ → CVN Tryz.prog 8 [.agg (ccells c h').toArray, nu n, .slice S md.length kS] w' _ := fun Γ base h' js' hi ho w' M => TrR.to (TraceP_cv (k2 := kS) (In.lent H.toCirIn hi M) (hS.chg (ho.old M)) hmn)
  have hT2 : ∀ Γ, In Γ (.old w none_) → ∀ w', Mem w' Γ → CVN Tryz.prog 9 [.agg (ccells c h).toArray, nu n, .slice S md.length kS] w' _ := fun Γ ho w' M => TrR.to (TraceR16_cv (n := n) (k2 := kS) (H.toCirIn.chg (ho.old M)) (hS.chg (ho.old M)) hmn)
  have hM1 : ∀ Γ base h' js' t' a' b', In Γ (.any (lentX base c h' js')) → TrcEq t' t → In Γ (.any (bun (trcB t' a' b'))) → ∀ w', Mem w' Γ → CVN Tryz.prog 10 [.agg (ccells c h').toArray, nu n, .agg (tcs t' a' b').toArray] w' (MdV (mtE c n t) (mdS c n t)) := fun Γ base h' js' t' a' b' hi E ht w' M => by
    have := MdR.to (n := n) (mt_max (In.lent H.toCirIn hi M)) (ModelF_cv (n := n) (In.lent H.toCirIn hi M) (TrcIn.bun HT E ht M))
    rwa [E.mtE, E.mdS] at this
  have hM2 : ∀ Γ, In Γ (.old w none_) → ∀ w', Mem w' Γ → CVN Tryz.prog 11 [.agg (ccells c h).toArray, nu n, .agg #[.slice a.1 t.init.length a.2, .slice b.1 t.rows.length b.2, nu t.loop]] w' (MdV (mtE c n t) (mdS c n t)) := fun Γ ho w' M => MdR.to (n := n) (mt_max H.toCirIn) (ModelR16_cv (n := n) (H.toCirIn.chg (ho.old M)) (HT.chg (ho.old M)))
  have hKp : ∀ Γ base h' js', In Γ (.any (lentX base c h' js')) → In Γ (.old w none_) → ∀ w', Mem w' Γ → CVN Tryz.prog 16 [.agg (ccells c h').toArray, .agg (ccells c h).toArray] w' _ := fun Γ base h' js' hi ho w' M => KeptG H hi ho M
  have h4 : ∀ Γ t' a' b', TrcEq t' t → In Γ (.any (bun (trcB t' a' b'))) → In Γ (.old w none_) → ∀ w', Mem w' Γ → CVN Tryz.prog 12 [.agg (tcs t' a' b').toArray, .agg #[.slice a.1 t.init.length a.2, .slice b.1 t.rows.length b.2, nu t.loop]] w' _ := fun Γ t' a' b' E hi ho w' M => sameTrace_cv (TrcIn.bun HT E hi M) (HT.chg (ho.old M)) E
  have hW : ∀ w', CVN Tryz.prog 5 [] w' _ := fun w' => works16_cv
  have hco : ∀ w', CVN Tryz.prog 4 [.agg (ccells c h).toArray, nu n] w' _ := fun w' => cost_cv
  refine CVN.enter 96 [4] Tryz.func3 rfl rfl rfl (by decide) rfl ?_
  generalize (if trE c n md = 0 then trI c md else []) = ini at *
  generalize (if trE c n md = 0 then trR c md n.toNat else []) = rs at *
  generalize (if trE c n md = 0 then (-1 : Int) else 0) = lp at *
  generalize trE c n md = ε1 at *
  generalize mtE c n t = ε2 at *
  generalize mdS c n t = m at *
  unfold MdV at hM1 hM2
  have hs1 : ∀ Γ t1 a1 b1 t2 a2 b2, (t1.init = ini ∧ t1.rows.map (·.2) = rs ∧ t1.loop = lp) → (t2.init = ini ∧ t2.rows.map (·.2) = rs ∧ t2.loop = lp) → In Γ (.any (bun (trcB t1 a1 b1))) → In Γ (.any (bun (trcB t2 a2 b2))) → ∀ w', Mem w' Γ → CVN Tryz.prog 12 [.agg (tcs t1 a1 b1).toArray, .agg (tcs t2 a2 b2).toArray] w' fun v N => N = [] ∧ v = .bool true := fun Γ t1 a1 b1 t2 a2 b2 e1 e2 h1 h2 w' M => sameTrace_cv (sm_in sm1 e1 h1 M) (sm_in sm1 e2 h2 M) ⟨e1.1.trans e2.1.symm, e1.2.2.trans e2.2.2.symm, e1.2.1.trans e2.2.1.symm⟩
  have hs2 : ∀ Γ A k B k', In Γ (.vec booc 1 4 A k m) → In Γ (.vec booc 1 4 B k' m) → ∀ w', Mem w' Γ → CVN Tryz.prog 13 [.slice A m.length k, .slice B m.length k'] w' fun v N => N = [] ∧ v = .bool true := fun Γ A k B k' h1 h2 w' M => (sameBools_cv (h1.row M) (h2.row M) (by omega) (by omega)).mono fun v N ⟨e1, e2⟩ => ⟨e1, by rw [e2, decide_eq_true rfl]⟩
  have hsp : ∀ (t1 : Trc) (a1 b1 : Hdl), (t1.init = ini ∧ t1.rows.map (·.2) = rs ∧ t1.loop = lp) → ∀ w', Mem w' [.any (bun (trcB t1 a1 b1))] → CVM Tryz.prog 14 [.agg (tcs t1 a1 b1).toArray] w' [.any (bun (trcB t1 a1 b1))] fun v N => N = [] := fun t1 a1 b1 e w' M => spoilTrcB sm1 e M
  have hsb : ∀ (A : Option Addr) (k' : Nat), ∀ w', Mem w' [.vec booc 1 4 A k' m] → CVM Tryz.prog 15 [.slice A m.length k'] w' [.vec booc 1 4 A k' m] _ := fun A k' w' M => spoilBools_cv M (by omega)
  by_cases hc : 40 < n ∧ 30 < c.max
  · rw [decide_eq_true hc] at hco
    repeat' (first
|(apply G_call;eq_refl;eq_refl;(exact fun w' _ => hco w');rintro _ _ ⟨rfl, rfl⟩)
|(apply G_call;eq_refl;eq_refl;(exact fun w' _ => hW w');rintro _ _ ⟨rfl, rfl⟩)
|(apply GC_seqK;intro K hK)
|(apply hK;clear hK K)
|(apply GC_region)
|(apply GL_nil)
|(apply thenG_normal)
|(apply thenG_ret)
|(apply GC_ret)
|(apply GC_if_true;eq_refl)
|(apply retG1;eq_refl)
|(apply GL_on;eq_refl;eq_refl)
|(apply G_pv;eq_refl;first|exact trivial|omega)
|(apply G_field;eq_refl)
|(apply G_ld;eq_refl;(repeat first|exact In.here|apply In.there|apply In.skip);eq_refl)
|(apply G_ldW;eq_refl;(repeat first|exact In.here|apply In.there|apply In.skip);eq_refl)
|(apply G_box;eq_refl;eq_refl;intro _))
    exact ⟨[], (by repeat first | exact Wk.nil | exact Wk.refl | (apply Wk.cons; (focus ((repeat first | exact Rem.here | apply Rem.there | apply Rem.skip); done))) | apply Wk.nilv | apply Wk.last | apply Wk.drop), rfl, rfl⟩
  · rw [decide_eq_false hc] at hco
    repeat' (first
|(apply G_ldS [.slice a.1 t.init.length a.2, .slice b.1 t.rows.length b.2, nu t.loop];eq_refl;(repeat first|exact In.here|apply In.there|apply In.skip);eq_refl;eq_refl)
|(apply G_call;eq_refl;eq_refl;(exact fun w' _ => hco w');rintro _ _ ⟨rfl, rfl⟩)
|(apply G_call;eq_refl;eq_refl;(apply hL;(repeat first|exact In.here|apply In.there|apply In.skip));rintro _ _ ⟨base, h', js', rfl, rfl⟩)
|(apply G_call;eq_refl;eq_refl;(apply hC;(repeat first|exact In.here|apply In.there|apply In.skip));rintro _ _ ⟨t', a', b', E, rfl, rfl⟩)
|(apply GC_seqK;intro K hK)
|(apply hK;clear hK K)
|(apply GC_region)
|(apply GL_nil)
|(apply thenG_normal)
|(apply GC_skip)
|(apply GC_if_false;eq_refl)
|(apply GL_on;eq_refl;eq_refl)
|(refine GC_draws (id := 3) [.q 0, .q 2, .q 3, .f 5, .f 6, .c 1, .c 4, .land, .c 7, .c 8] mixed (by kernel_rfl) (by kernel_rfl) ?_)
|(apply GS_nil)
|(apply GS_qon;eq_refl;eq_refl;eq_refl;eq_refl)
|(apply GS_con;eq_refl;eq_refl;eq_refl;eq_refl)
|(apply GS_fl;eq_refl;infer_instance;eq_refl;eq_refl;eq_refl)
|(apply GS_land;simp only [landG];intros)
|(apply G_pv;eq_refl;first|exact trivial|omega)
|(apply G_field;eq_refl)
|(apply G_ld;eq_refl;(repeat first|exact In.here|apply In.there|apply In.skip);eq_refl)
|(apply G_ldW;eq_refl;(repeat first|exact In.here|apply In.there|apply In.skip);eq_refl)
|(apply G_box;eq_refl;eq_refl;intro _)
|(apply G_stW;(first|exact wr_p|kernel_rfl);eq_refl;eq_refl;eq_refl;eq_refl;(repeat first|exact Upd.here|apply Upd.there|apply Upd.skip);eq_refl))
    apply G_call; eq_refl; eq_refl; (apply hT1; (repeat first | exact In.here | apply In.there | apply In.skip); (repeat first | exact In.here | apply In.there | apply In.skip)); rintro _ _ ⟨t1, a1, b1, e1, rfl, rfl⟩
    repeat' (first
|(apply G_call;eq_refl;eq_refl;(apply hT2;(repeat first|exact In.here|apply In.there|apply In.skip));rintro _ _ ⟨t2, a2, b2, e2, rfl, rfl⟩)
|(apply GC_seqK;intro K hK)
|(apply hK;clear hK K)
|(apply GC_region)
|(apply GL_nil)
|(apply thenG_normal)
|(apply GL_on;eq_refl;eq_refl)
|(apply G_pv;eq_refl;first|exact trivial|omega)
|(apply G_field;eq_refl)
|(apply G_ld;eq_refl;(repeat first|exact In.here|apply In.there|apply In.skip);eq_refl)
|(apply G_ldW;eq_refl;(repeat first|exact In.here|apply In.there|apply In.skip);eq_refl)
|(apply G_alloc;eq_refl;intro _)
|(apply G_stW;(first|exact wr_p|kernel_rfl);eq_refl;eq_refl;eq_refl;eq_refl;(repeat first|exact Upd.here|apply Upd.there|apply Upd.skip);eq_refl))
    apply G_call; eq_refl; eq_refl; (apply hM1; (repeat first | exact In.here | apply In.there | apply In.skip); assumption; (repeat first | exact In.here | apply In.there | apply In.skip)); rintro _ _ ⟨A3, k3, rfl, rfl⟩
    repeat' (first
|(apply G_ldS [.slice a.1 t.init.length a.2, .slice b.1 t.rows.length b.2, nu t.loop];eq_refl;(repeat first|exact In.here|apply In.there|apply In.skip);eq_refl;eq_refl)
|(apply G_call;eq_refl;eq_refl;(apply hM2;(repeat first|exact In.here|apply In.there|apply In.skip));rintro _ _ ⟨A4, k4, rfl, rfl⟩)
|(apply G_call;eq_refl;eq_refl;(apply (hs1 _ t1 a1 b1 t2 a2 b2 e1 e2);(repeat first|exact In.here|apply In.there|apply In.skip);(repeat first|exact In.here|apply In.there|apply In.skip));rintro _ _ ⟨rfl, rfl⟩)
|(apply G_call;eq_refl;eq_refl;(apply (hs2 _ A3 k3 A4 k4);(repeat first|exact In.here|apply In.there|apply In.skip);(repeat first|exact In.here|apply In.there|apply In.skip));rintro _ _ ⟨rfl, rfl⟩)
|(apply G_callM2;exact wr_p;eq_refl;(exact hsp t1 a1 b1 e1);(repeat first|exact Rems.nil|(apply Rems.cons;(focus ((repeat first|exact Rem.here|apply Rem.there|apply Rem.skip);done))));rintro _ _ rfl)
|(apply G_callM2;exact wr_p;eq_refl;(exact hsb A3 k3);(repeat first|exact Rems.nil|(apply Rems.cons;(focus ((repeat first|exact Rem.here|apply Rem.there|apply Rem.skip);done))));rintro _ _ ⟨rfl, l9, hl9, rfl⟩)
|(apply G_call;eq_refl;eq_refl;(apply hKp;(repeat first|exact In.here|apply In.there|apply In.skip);(repeat first|exact In.here|apply In.there|apply In.skip));rintro _ _ ⟨rfl, rfl⟩)
|(apply G_call;eq_refl;eq_refl;(apply (h4 _ t' a' b' E);(repeat first|exact In.here|apply In.there|apply In.skip);(repeat first|exact In.here|apply In.there|apply In.skip));rintro _ _ ⟨rfl, rfl⟩)
|(apply G_call;eq_refl;eq_refl;(exact fun w' _ => hW w');rintro _ _ ⟨rfl, rfl⟩)
|(apply GC_seqK;intro K hK)
|(apply hK;clear hK K)
|(apply GC_region)
|(apply GL_nil)
|(apply thenG_normal)
|(apply GC_ret)
|(apply GC_skip)
|(apply GC_if_false;eq_refl)
|(apply retG1;eq_refl)
|(apply GL_on;eq_refl;eq_refl)
|(apply G_pv;eq_refl;first|exact trivial|omega)
|(apply G_field;eq_refl)
|(apply G_ld;eq_refl;(repeat first|exact In.here|apply In.there|apply In.skip);eq_refl)
|(apply G_ldW;eq_refl;(repeat first|exact In.here|apply In.there|apply In.skip);eq_refl)
|(apply G_cmpF;eq_refl;eq_refl;omega))
    exact ⟨[], (by repeat first | exact Wk.nil | exact Wk.refl | (apply Wk.cons; (focus ((repeat first | exact Rem.here | apply Rem.there | apply Rem.skip); done))) | apply Wk.nilv | apply Wk.last | apply Wk.drop), rfl, rfl⟩
end SC
end Go.Proofs.YtbmngkdnebklpaaGreat
end
section
/- A case of FramesModels that comes in. -/
set_option linter.unusedVariables false
set_option linter.unusedSimpArgs false
namespace Go.Proofs.YtbmngkdnebklpaaGreat
namespace SC
open Go.Proofs
set_option maxRecDepth 100000
section
variable {H : Type} {enc : TypeId × Value → H} {W : World} {base : Nat} {spare : Nat → Bool} {held : Bool}
theorem openFieldW {t : TypeId} {fs : Array Field} {fuel : Nat} {cs : List Value} {x : DataW H × List MemPlace} (ht : Tryz.prog.underlying t = some (.struct fs)) (h : DataW.trod enc Tryz.prog W base spare held fuel t cs = some x) :
    cs.length = Tryz.prog.cellsOf t ∧ ∃ n, ∀ (i : Nat) (f : Field) (k : Nat), fs[i]? = some f → Tryz.prog.cellsOf f.type = k → ∃ y, DataW.trod enc Tryz.prog W base spare held n f.type ((cs.drop f.offset).take k) = some y ∧ ∀ n ∈ y.1.weights Tryz.prog f.type, n ∈ x.1.weights Tryz.prog t := by
  obtain ⟨xs, n, _, hx0, hcl, hxl, hf⟩ := DataW.trod_struct ht h
  refine ⟨hcl, n, fun i f k hfi hk => ?_⟩
  have := hf i f hfi
  have hi : i < fs.size := by
    rcases Nat.lt_or_ge i fs.size with h | h
    · exact h
    · rw [Array.getElem?_eq_none h] at hfi
      cases hfi
  have hx : i < xs.length := by rw [hxl]; exact hi
  rw [hk, List.getElem?_eq_getElem hx] at this
  refine ⟨_, this, fun m hm => ?_⟩
  rw [hx0]
  simp only [DataW.weights, ht]
  exact DataW.weights_mem_each (j := i) (t := f.type) (d := xs[i].1) (by rw [List.getElem?_map, Array.getElem?_toList, hfi]; rfl) (by rw [List.getElem?_map, List.getElem?_eq_getElem hx]; rfl) m hm
/-- The cells of a trace that comes in. -/
theorem openTrcF {fuel : Nat} {cs : List Value} {x : DataW H × List MemPlace} (hf : DataW.trod enc Tryz.prog W base spare held fuel 33 cs = some x) (hz : ∀ n ∈ x.1.weights Tryz.prog 33, n ≤ 140737488351232) :
    ∃ (t : Trc) (a b : Hdl), cs = tcs t a b ∧ TrcIn W t a b := by
  obtain ⟨hl, n, hfl⟩ := openFieldS Tryz.underlying33 (by kernel_rfl) hf
  have hl : cs.length = 3 := hl
  obtain ⟨y0, h0, g0⟩ := hfl 0 _ (by rw [hl]; decide) rfl rfl (by kernel_rfl)
  obtain ⟨y1, h1, g1⟩ := hfl 1 _ (by rw [hl]; decide) rfl rfl (by kernel_rfl)
  obtain ⟨y2, h2, g2⟩ := hfl 2 _ (by rw [hl]; decide) rfl rfl (by kernel_rfl)
  obtain ⟨A0, c0, l0, e0, r0, z0, w0⟩ := openBoolsF h0
  obtain ⟨A1, c1, l1, e1, r1, k1, n1, z1, w1⟩ := openRowS encS (fun y d => RowA W booc 1 y.1.1 y.2 ∧ (y.1.1 = none → y.1.2 = 0) ∧ ∀ R, (∀ n ∈ d.weights Tryz.prog 30, n ≤ R) → y.2.length ≤ R) Tryz.underlying31 (by kernel_rfl) (fun _ => rfl) (fun _ _ _ h => openTrowS h) h1
  obtain ⟨lo, e2, f2⟩ := openIntS h2
  have hby : Tryz.prog.bytesOf 30 = 24 := by kernel_rfl
  rw [hby] at w1
  have v0 := w0 _ fun n hn => hz n (g0 n hn)
  have v1 := w1 _ fun n hn => hz n (g1 n hn)
  have k1' : ∀ y ∈ l1, RowA W booc 1 y.1.1 y.2 ∧ (y.1.1 = none → y.1.2 = 0) ∧ y.2.length ≤ 140737488351232 := fun y hy => by
    obtain ⟨d, ⟨q1, q2, q3⟩, q5⟩ := k1 y hy
    exact ⟨q1, q2, q3 _ fun n hn => hz n (g1 n (q5 n hn))⟩
  refine ⟨⟨l0, l1, lo⟩, (A0, c0), (A1, c1), ?_, r0, r1, fun p hp => (k1' p hp).1, z0, z1, fun p hp => (k1' p hp).2.1, v0, (by show l1.length ≤ _; omega), fun p hp => (k1' p hp).2.2, f2⟩
  apply List.ext_getElem (by rw [hl]; rfl)
  intro i hi1 hi2
  match i, hi2 with
  | 0, _ => exact (List.cons.inj e0).1
  | 1, _ => exact (List.cons.inj e1).1
  | 2, _ => exact (List.cons.inj e2).1.symm
theorem openCase16 {v : Value} {d : DataW H} {ps : List MemPlace} {r : Reach} {b0 : Nat} (hv : Value.okWide Tryz.prog W r b0 35 v) (h : DataW.Trod enc Tryz.prog W base spare held 35 v d ps) (hz : ∀ n ∈ d.weights Tryz.prog 35, n ≤ 140737488351232) :
    ∃ (n : Int) (A : Option Addr) (cp : Nat) (s : List Bool) (t : Trc) (a b : Hdl), v = .agg #[nu n, .slice A s.length cp, .slice a.1 t.init.length a.2, .slice b.1 t.rows.length b.2, nu t.loop] ∧ RowA W booc 1 A s ∧ s.length ≤ 140737488351232 ∧ TrcIn W t a b := by
  obtain ⟨cs, rfl, hsz⟩ := Go.WideShapes.okWide_struct Tryz.underlying35 hv
  obtain ⟨fuel, hf⟩ := h
  rw [agg_cells] at hf
  obtain ⟨l⟩ := cs
  obtain ⟨hl, n, hfl⟩ := openFieldW Tryz.underlying35 hf
  have h5 : Tryz.prog.cellsOf 35 = 5 := by kernel_rfl
  rw [h5] at hl
  obtain ⟨y0, h0, g0⟩ := hfl 0 _ 1 rfl (by kernel_rfl)
  obtain ⟨y1, h1, g1⟩ := hfl 1 _ 1 rfl (by kernel_rfl)
  obtain ⟨y2, h2, g2⟩ := hfl 2 _ 3 rfl (by kernel_rfl)
  match l, hl with
  | [c0, c1, c2, c3, c4], _ =>
    have h0 : DataW.trod enc Tryz.prog W base spare held n 3 [c0] = some y0 := h0
    have h1 : DataW.trod enc Tryz.prog W base spare held n 30 [c1] = some y1 := h1
    have h2 : DataW.trod enc Tryz.prog W base spare held n 33 [c2, c3, c4] = some y2 := h2
    obtain ⟨z, e0, f0⟩ := openIntS h0
    obtain ⟨A1, k1, l1, e1, r1, z1, w1⟩ := openBoolsF h1
    obtain ⟨t, a, b, e2, HT⟩ := openTrcF h2 fun n hn => hz n (g2 n hn)
    refine ⟨z, A1, k1, l1, t, a, b, ?_, r1, w1 _ fun n hn => hz n (g1 n hn), HT⟩
    have q0 : c0 = nu z := (List.cons.inj e0).1.symm
    have q1 : c1 = .slice A1 l1.length k1 := (List.cons.inj e1).1
    unfold tcs at e2
    simp only [List.cons.injEq, and_true] at e2
    obtain ⟨q2, q3, q4⟩ := e2
    rw [q0, q1, q2, q3, q4]
end
end SC
end Go.Proofs.YtbmngkdnebklpaaGreat
end

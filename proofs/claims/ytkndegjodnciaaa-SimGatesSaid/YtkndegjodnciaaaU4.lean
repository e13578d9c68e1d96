/- Texts of this seat, one behind the other: S18. -/
import Derived.Test.YtkndegjodnciaaaU3
section
/- trestlelaw07: SimGates: the walk. -/
set_option linter.unusedVariables false
set_option linter.unusedSimpArgs false
namespace Go.Proofs.Ytkndegjodnciaaa
namespace SC
open Go.Proofs
theorem all_take {l : List Int} {p : Int → Bool} {i : Nat} (h : i < l.length) : (l.take (i + 1)).all p = ((l.take i).all p && p (gt l (i : Int))) := by
  rw [List.take_succ_eq_append_getElem h, List.all_append, gt_nat h]; simp
theorem nxt_gt {c : Circ} {v : List Bool} {i : Nat} (h : i < c.latches.length) : gt (nxtM c v) (i : Int) = lv v (gt c.latches (i : Int)).2.1 := by
  unfold nxtM
  rw [gt_nat (by simpa using h), gt_nat h, List.getElem_map]
attribute [local irreducible] WC WL WX WS WO OX Does DoesU Enters CV Pure thenQ blockQ retQ Wants retQC GC GL GS GX RdB thenG blockG retG Rd At gt CVN CVM
set_option maxRecDepth 100000
theorem simGates_cv {w : World} {c : Circ} {h js : Hd} {S T : Option Addr} {k k2 : Nat} {s r : List Bool} (H : CirIn w c h js) (hS : RowA w booc 1 S s) (hT : RowA w booc 1 T r) :
    CVN Try.prog 13 [.agg (ccells c h).toArray, .slice S s.length k, .slice T r.length k2] w fun v N => N = [] ∧ v = .bool true := by
  have p1 : ∀ Γ, In Γ (.old w none_) → ∀ w', Mem w' Γ → CVN Try.prog 53 [.agg (ccells c h).toArray, .slice S s.length k, .slice T r.length k2] w' _ := fun Γ hi w' M => ValuesP_cv (H.chg (hi.old M)) (hS.chg (hi.old M)) (hT.chg (hi.old M))
  have p2 : ∀ Γ, In Γ (.old w none_) → ∀ w', Mem w' Γ → CVN Try.prog 49 [.agg (ccells c h).toArray, .slice S s.length k, .slice T r.length k2] w' _ := fun Γ hi w' M => NextP_cv (H.chg (hi.old M)) (hS.chg (hi.old M)) (hT.chg (hi.old M))
  have p3 : ∀ Γ, In Γ (.old w none_) → ∀ w', Mem w' Γ → CVN Try.prog 56 [.agg (ccells c h).toArray, .slice S s.length k, .slice T r.length k2] w' _ := fun Γ hi w' M => HoldsP_cv (H.chg (hi.old M)) (hS.chg (hi.old M)) (hT.chg (hi.old M))
  have h5 : ∀ w', CVN Try.prog 48 [] w' _ := fun w' => worksSim_cv
  have hLat := H.at_.latches
  have hInp := H.at_.inputs
  have hAnd := H.at_.ands
  have hCon := H.at_.constraints
  unfold ValsR at p1
  unfold NextR at p2
  refine CVN.enter 188 [6] Try.func13 rfl rfl rfl (by decide) rfl ?_
  by_cases he : stepE c s r = 0
  · have e1 : valsM c s r = valM c s r := if_pos he
    have e2 : nextM c s r = nxtM c (valM c s r) := if_pos he
    have e3 : holdsM c s r = c.constraints.all (lv (valM c s r)) := if_pos he
    have z := stepE_zero he
    have R := right_of H.at_ H.sane z.1
    have V := val_ok R s r
    have m0 := R.m0
    have m1 := R.m1
    have n1 := R.nIn
    have n2 := R.nLat
    have n3 := R.nAnd
    have n4 := R.nCon
    rw [e1, he] at p1
    rw [e2, he] at p2
    rw [e3, he] at p3
    generalize valM c s r = v at *
    have hlen := V.len
    have hz := V.zero
    have hnl : (nxtM c v).length = c.latches.length := by unfold nxtM; simp
    generalize hN : nxtM c v = n at *
    generalize hC : c.constraints.all (lv v) = β at *
    have hlit : ∀ Γ A k, In Γ (.vec booc 1 4 A k v) → ∀ l, inR c l → ∀ w', Mem w' Γ → CVN Try.prog 58 [.slice A v.length k, nu l] w' fun r N => N = [] ∧ r = .bool (lv v l) := fun Γ A k hi l hl w' M => lit7_cv (hi.row M) (hl.has m1 hlen)
    repeat' (first
      | (apply G_call; eq_refl; eq_refl; (exact fun w' _ => h5 w'); rintro _ _ ⟨rfl, rfl⟩)
      | (apply G_call; eq_refl; eq_refl; (apply p1; (repeat first | exact In.here | apply In.there | apply In.skip)); rintro _ _ ⟨A1, k1, rfl, rfl⟩)
      | (apply G_call; eq_refl; eq_refl; (apply p2; (repeat first | exact In.here | apply In.there | apply In.skip)); rintro _ _ ⟨A2, k3, rfl, rfl⟩)
      | (apply G_call; eq_refl; eq_refl; (apply p3; (repeat first | exact In.here | apply In.there | apply In.skip)); rintro _ _ ⟨rfl, rfl⟩)
      | (apply G_rd; eq_refl; (first | (apply Rd.own; (repeat first | exact In.here | apply In.there | apply In.skip); infer_instance) | (apply Rd.old; (repeat first | exact In.here | apply In.there | apply In.skip); assumption) | (apply Rd.oldR; (repeat first | exact In.here | apply In.there | apply In.skip); assumption) | exact Rd.nil | assumption); (case ih => infer_instance); omega; omega; (rw [hz]; eq_refl))
      | (apply GC_seqK; intro K hK)
      | (apply hK; clear hK K)
      | (apply GC_block)
      | (apply GC_region)
      | (apply GL_nil)
      | (apply thenG_normal)
      | (apply GC_skip)
      | (apply GC_if_false; eq_refl)
      | (apply GL_on; eq_refl; eq_refl)
      | (apply G_pv; eq_refl; first | exact trivial | omega)
      | (apply G_field; eq_refl)
      | (apply G_ld; eq_refl; (repeat first | exact In.here | apply In.there | apply In.skip); eq_refl)
      | (apply G_ldW; eq_refl; (repeat first | exact In.here | apply In.there | apply In.skip); eq_refl)
      | (apply G_cmpF; eq_refl; eq_refl; omega)
      | (apply G_len; eq_refl)
      | (apply G_ix; eq_refl; eq_refl; (first | (apply Rd.own; (repeat first | exact In.here | apply In.there | apply In.skip); infer_instance) | (apply Rd.old; (repeat first | exact In.here | apply In.there | apply In.skip); assumption) | (apply Rd.oldR; (repeat first | exact In.here | apply In.there | apply In.skip); assumption) | exact Rd.nil | assumption); (first | eq_refl | omega); omega; omega)
      | (apply G_box; eq_refl; eq_refl; intro _))
    rename_i b0
    refine GC_loopK [1, 2, 3, 7, 9, 11, 97, 98] (fun i : Nat => [(99, nu i)]) (fun _ => [.vec booc 1 4 A2 k3 n, .vec booc 1 4 A1 k1 v, .box b0 51 (ccells c h), .old w none_]) (fun i => i ≤ c.inputs.length) (fun i => c.inputs.length - i) 0 (by repeat first | exact Pick.nil | (apply Pick.cons; eq_refl)) (by repeat first | exact trivial | refine ⟨rfl, ?_⟩) (by repeat first | exact Wk.nil | exact Wk.refl | (apply Wk.cons; (focus ((repeat first | exact Rem.here | apply Rem.there | apply Rem.skip); done))) | apply Wk.nilv | apply Wk.last | apply Wk.drop) (Nat.zero_le _) ?_
    intro i hi
    rcases Nat.lt_or_ge i c.inputs.length with hlt | hge
    · have hv := V.inp i hlt
      have hd := R.inp (gt_mem (l := c.inputs) (i := (i : Int)) (by omega) (by omega))
      unfold defR at hd
      generalize hb : gt r (i : Int) = b at *
      generalize hl : gt c.inputs (i : Int) = l at *
      cases b
      all_goals
        repeat' (first
      | (apply G_rd; eq_refl; (first | (apply Rd.own; (repeat first | exact In.here | apply In.there | apply In.skip); infer_instance) | (apply Rd.old; (repeat first | exact In.here | apply In.there | apply In.skip); assumption) | (apply Rd.oldR; (repeat first | exact In.here | apply In.there | apply In.skip); assumption) | exact Rd.nil | assumption); (case ih => infer_instance); omega; omega; (rw [hl]; eq_refl))
      | (apply G_rd; eq_refl; (first | (apply Rd.own; (repeat first | exact In.here | apply In.there | apply In.skip); infer_instance) | (apply Rd.old; (repeat first | exact In.here | apply In.there | apply In.skip); assumption) | (apply Rd.oldR; (repeat first | exact In.here | apply In.there | apply In.skip); assumption) | exact Rd.nil | assumption); (case ih => infer_instance); omega; omega; (rw [hb]; eq_refl))
      | (apply G_rd; eq_refl; (first | (apply Rd.own; (repeat first | exact In.here | apply In.there | apply In.skip); infer_instance) | (apply Rd.old; (repeat first | exact In.here | apply In.there | apply In.skip); assumption) | (apply Rd.oldR; (repeat first | exact In.here | apply In.there | apply In.skip); assumption) | exact Rd.nil | assumption); (case ih => infer_instance); omega; omega; (rw [hv]; eq_refl))
      | (apply GC_seqK; intro K hK)
      | (apply hK; clear hK K)
      | (apply GC_block)
      | (apply GC_region)
      | (apply GL_nil)
      | (apply thenG_normal)
      | (apply blockG_normal)
      | (apply GC_skip)
      | (apply GC_if_true; eq_refl)
      | (apply GC_if_false; eq_refl)
      | (apply GL_on; eq_refl; eq_refl)
      | (refine GC_draws (id := 13) [.q 0, .q 1, .q 2, .q 3, .q 4, .q 5, .q 6, .q 7, .q 8, .q 9] mixed (by kernel_rfl) (by kernel_rfl) ?_)
      | (apply GS_nil)
      | (apply GS_qon; eq_refl; eq_refl; eq_refl; eq_refl)
      | (apply G_pv; eq_refl; first | exact trivial | omega)
      | (apply G_cmpT; eq_refl; eq_refl; omega)
      | (apply G_ix; eq_refl; eq_refl; (first | (apply Rd.own; (repeat first | exact In.here | apply In.there | apply In.skip); infer_instance) | (apply Rd.old; (repeat first | exact In.here | apply In.there | apply In.skip); assumption) | (apply Rd.oldR; (repeat first | exact In.here | apply In.there | apply In.skip); assumption) | exact Rd.nil | assumption); (first | eq_refl | omega); omega; omega)
      | (apply G_neqB; eq_refl; eq_refl))
        exact ⟨i + 1, (by repeat first | exact trivial | refine ⟨rfl, ?_⟩), (by repeat first | exact Wk.nil | exact Wk.refl | (apply Wk.cons; (focus ((repeat first | exact Rem.here | apply Rem.there | apply Rem.skip); done))) | apply Wk.nilv | apply Wk.last | apply Wk.drop), hlt, by omega⟩
    obtain rfl : i = c.inputs.length := by omega
    repeat' (first
      | (apply GC_seqK; intro K hK)
      | (apply hK; clear hK K)
      | (clear hK K; apply hK; clear hK K)
      | (apply GC_block)
      | (apply GC_region)
      | (apply GL_nil)
      | (apply thenG_normal)
      | (apply thenG_exit)
      | (apply blockG_hit)
      | (apply GC_exit)
      | (apply GC_if_false; eq_refl)
      | (apply GL_on; eq_refl; eq_refl)
      | (apply G_pv; eq_refl; first | exact trivial | omega)
      | (apply G_field; eq_refl)
      | (apply G_ld; eq_refl; (repeat first | exact In.here | apply In.there | apply In.skip); eq_refl)
      | (apply G_cmpF; eq_refl; eq_refl; omega)
      | (apply G_len; eq_refl))
    refine GC_loopK [1, 2, 3, 7, 9, 11, 116, 117] (fun i : Nat => [(118, nu i)]) (fun _ => [.vec booc 1 4 A2 k3 n, .vec booc 1 4 A1 k1 v, .box b0 51 (ccells c h), .old w none_]) (fun i => i ≤ c.latches.length) (fun i => c.latches.length - i) 0 (by repeat first | exact Pick.nil | (apply Pick.cons; eq_refl)) (by repeat first | exact trivial | refine ⟨rfl, ?_⟩) (by repeat first | exact Wk.nil | exact Wk.refl | (apply Wk.cons; (focus ((repeat first | exact Rem.here | apply Rem.there | apply Rem.skip); done))) | apply Wk.nilv | apply Wk.last | apply Wk.drop) (Nat.zero_le _) ?_
    intro i hi
    rcases Nat.lt_or_ge i c.latches.length with hlt | hge
    · have hv := V.lat i hlt
      have hx := nxt_gt (v := v) hlt
      obtain ⟨hd, hd2, _⟩ := R.lat (gt_mem (l := c.latches) (i := (i : Int)) (by omega) (by omega))
      unfold defR at hd
      rw [hN] at hx
      generalize hb : gt s (i : Int) = b at *
      generalize hy : lv v (gt c.latches (i : Int)).2.1 = y at *
      have hlit' : ∀ Γ A k, In Γ (.vec booc 1 4 A k v) → ∀ w', Mem w' Γ → CVN Try.prog 58 [.slice A v.length k, nu (gt c.latches (i : Int)).2.1] w' fun r N => N = [] ∧ r = .bool y := fun Γ A k hi w' M => hy ▸ hlit Γ A k hi _ hd2 w' M
      cases b
      all_goals
        cases y
        all_goals
          repeat' (first
      | (apply G_rd; eq_refl; (first | (apply Rd.own; (repeat first | exact In.here | apply In.there | apply In.skip); infer_instance) | (apply Rd.old; (repeat first | exact In.here | apply In.there | apply In.skip); assumption) | (apply Rd.oldR; (repeat first | exact In.here | apply In.there | apply In.skip); assumption) | exact Rd.nil | assumption); (case ih => infer_instance); omega; omega; (rw [hb]; eq_refl))
      | (apply G_rd; eq_refl; (first | (apply Rd.own; (repeat first | exact In.here | apply In.there | apply In.skip); infer_instance) | (apply Rd.old; (repeat first | exact In.here | apply In.there | apply In.skip); assumption) | (apply Rd.oldR; (repeat first | exact In.here | apply In.there | apply In.skip); assumption) | exact Rd.nil | assumption); (case ih => infer_instance); omega; omega; (rw [hv]; eq_refl))
      | (apply G_rd; eq_refl; (first | (apply Rd.own; (repeat first | exact In.here | apply In.there | apply In.skip); infer_instance) | (apply Rd.old; (repeat first | exact In.here | apply In.there | apply In.skip); assumption) | (apply Rd.oldR; (repeat first | exact In.here | apply In.there | apply In.skip); assumption) | exact Rd.nil | assumption); (case ih => infer_instance); omega; omega; (rw [hx]; eq_refl))
      | (apply G_call; eq_refl; eq_refl; (apply hlit'; (repeat first | exact In.here | apply In.there | apply In.skip)); rintro _ _ ⟨rfl, rfl⟩)
      | (apply GC_seqK; intro K hK)
      | (apply hK; clear hK K)
      | (apply GC_block)
      | (apply GC_region)
      | (apply GL_nil)
      | (apply thenG_normal)
      | (apply blockG_normal)
      | (apply GC_skip)
      | (apply GC_if_true; eq_refl)
      | (apply GC_if_false; eq_refl)
      | (apply GL_on; eq_refl; eq_refl)
      | (refine GC_draws (id := 19) [.q 0, .q 1, .q 2, .q 3, .q 4, .q 5, .q 6, .q 7, .q 8, .q 9, .q 10, .q 11, .q 12, .q 13, .q 14, .q 15, .q 16, .q 17, .q 18, .c 19, .q 20, .q 21] mixed (by kernel_rfl) (by kernel_rfl) ?_)
      | (apply GS_nil)
      | (apply GS_qon; eq_refl; eq_refl; eq_refl; eq_refl)
      | (apply GS_con; eq_refl; eq_refl; eq_refl; eq_refl)
      | (apply G_pv; eq_refl; first | exact trivial | omega)
      | (apply G_field; eq_refl)
      | (apply G_ld; eq_refl; (repeat first | exact In.here | apply In.there | apply In.skip); eq_refl)
      | (apply G_rdW; eq_refl; (first | (apply Rd.own; (repeat first | exact In.here | apply In.there | apply In.skip); infer_instance) | (apply Rd.old; (repeat first | exact In.here | apply In.there | apply In.skip); assumption) | (apply Rd.oldR; (repeat first | exact In.here | apply In.there | apply In.skip); assumption) | exact Rd.nil | assumption); infer_instance; (case ih => infer_instance); omega; omega)
      | (apply G_cmpT; eq_refl; eq_refl; omega)
      | (apply G_ix; eq_refl; eq_refl; (first | (apply Rd.own; (repeat first | exact In.here | apply In.there | apply In.skip); infer_instance) | (apply Rd.old; (repeat first | exact In.here | apply In.there | apply In.skip); assumption) | (apply Rd.oldR; (repeat first | exact In.here | apply In.there | apply In.skip); assumption) | exact Rd.nil | assumption); (first | eq_refl | omega); omega; omega)
      | (apply G_neqB; eq_refl; eq_refl)
      | (apply G_alloc; eq_refl; intro _)
      | (apply G_stW; (first | exact wr_p | kernel_rfl); eq_refl; eq_refl; eq_refl; eq_refl; (repeat first | exact Upd.here | apply Upd.there | apply Upd.skip); eq_refl))
          exact ⟨i + 1, (by repeat first | exact trivial | refine ⟨rfl, ?_⟩), (by repeat first | exact Wk.nil | exact Wk.refl | (apply Wk.cons; (focus ((repeat first | exact Rem.here | apply Rem.there | apply Rem.skip); done))) | apply Wk.nilv | apply Wk.last | apply Wk.drop), hlt, by omega⟩
    obtain rfl : i = c.latches.length := by omega
    repeat' (first
      | (apply GC_seqK; intro K hK)
      | (apply hK; clear hK K)
      | (clear hK K; apply hK; clear hK K)
      | (apply GC_block)
      | (apply GC_region)
      | (apply GL_nil)
      | (apply thenG_normal)
      | (apply thenG_exit)
      | (apply blockG_hit)
      | (apply GC_exit)
      | (apply GC_if_false; eq_refl)
      | (apply GL_on; eq_refl; eq_refl)
      | (apply G_pv; eq_refl; first | exact trivial | omega)
      | (apply G_field; eq_refl)
      | (apply G_ld; eq_refl; (repeat first | exact In.here | apply In.there | apply In.skip); eq_refl)
      | (apply G_cmpF; eq_refl; eq_refl; omega)
      | (apply G_len; eq_refl))
    refine GC_loopK [1, 2, 3, 7, 9, 11, 147, 148] (fun i : Nat => [(149, nu i)]) (fun _ => [.vec booc 1 4 A2 k3 n, .vec booc 1 4 A1 k1 v, .box b0 51 (ccells c h), .old w none_]) (fun i => i ≤ c.ands.length) (fun i => c.ands.length - i) 0 (by repeat first | exact Pick.nil | (apply Pick.cons; eq_refl)) (by repeat first | exact trivial | refine ⟨rfl, ?_⟩) (by repeat first | exact Wk.nil | exact Wk.refl | (apply Wk.cons; (focus ((repeat first | exact Rem.here | apply Rem.there | apply Rem.skip); done))) | apply Wk.nilv | apply Wk.last | apply Wk.drop) (Nat.zero_le _) ?_
    intro i hi
    rcases Nat.lt_or_ge i c.ands.length with hlt | hge
    · have hv := V.and i hlt
      obtain ⟨hd, hd2, hd3⟩ := R.gate (gt_mem (l := c.ands) (i := (i : Int)) (by omega) (by omega))
      unfold defR at hd
      generalize hy : lv v (gt c.ands (i : Int)).2.1 = y at *
      generalize hy2 : lv v (gt c.ands (i : Int)).2.2 = y2 at *
      have hl1 : ∀ Γ A k, In Γ (.vec booc 1 4 A k v) → ∀ w', Mem w' Γ → CVN Try.prog 58 [.slice A v.length k, nu (gt c.ands (i : Int)).2.1] w' fun r N => N = [] ∧ r = .bool y := fun Γ A k hi w' M => hy ▸ hlit Γ A k hi _ hd2 w' M
      have hl2 : ∀ Γ A k, In Γ (.vec booc 1 4 A k v) → ∀ w', Mem w' Γ → CVN Try.prog 58 [.slice A v.length k, nu (gt c.ands (i : Int)).2.2] w' fun r N => N = [] ∧ r = .bool y2 := fun Γ A k hi w' M => hy2 ▸ hlit Γ A k hi _ hd3 w' M
      cases y
      all_goals
        cases y2
        all_goals
          repeat' (first
      | (apply G_rd; eq_refl; (first | (apply Rd.own; (repeat first | exact In.here | apply In.there | apply In.skip); infer_instance) | (apply Rd.old; (repeat first | exact In.here | apply In.there | apply In.skip); assumption) | (apply Rd.oldR; (repeat first | exact In.here | apply In.there | apply In.skip); assumption) | exact Rd.nil | assumption); (case ih => infer_instance); omega; omega; (rw [hv]; eq_refl))
      | (apply G_call; eq_refl; eq_refl; (apply hl1; (repeat first | exact In.here | apply In.there | apply In.skip)); rintro _ _ ⟨rfl, rfl⟩)
      | (apply G_call; eq_refl; eq_refl; (apply hl2; (repeat first | exact In.here | apply In.there | apply In.skip)); rintro _ _ ⟨rfl, rfl⟩)
      | (apply GC_seqK; intro K hK)
      | (apply hK; clear hK K)
      | (apply GC_block)
      | (apply GC_region)
      | (apply GL_nil)
      | (apply thenG_normal)
      | (apply blockG_normal)
      | (apply GC_skip)
      | (apply GC_if_true; eq_refl)
      | (apply GC_if_false; eq_refl)
      | (apply GL_on; eq_refl; eq_refl)
      | (refine GC_draws (id := 25) [.q 0, .q 1, .q 2, .q 3, .q 4, .q 5, .q 6, .q 7, .q 8, .c 9, .q 10, .q 11, .q 12, .q 13, .c 14, .q 15, .q 16] mixed (by kernel_rfl) (by kernel_rfl) ?_)
      | (apply GS_nil)
      | (apply GS_qon; eq_refl; eq_refl; eq_refl; eq_refl)
      | (apply GS_qoff; eq_refl; eq_refl; eq_refl; eq_refl)
      | (apply GS_con; eq_refl; eq_refl; eq_refl; eq_refl)
      | (apply GS_coff; eq_refl; eq_refl; eq_refl; eq_refl)
      | (apply G_pv; eq_refl; first | exact trivial | omega)
      | (apply G_field; eq_refl)
      | (apply G_ld; eq_refl; (repeat first | exact In.here | apply In.there | apply In.skip); eq_refl)
      | (apply G_rdW; eq_refl; (first | (apply Rd.own; (repeat first | exact In.here | apply In.there | apply In.skip); infer_instance) | (apply Rd.old; (repeat first | exact In.here | apply In.there | apply In.skip); assumption) | (apply Rd.oldR; (repeat first | exact In.here | apply In.there | apply In.skip); assumption) | exact Rd.nil | assumption); infer_instance; (case ih => infer_instance); omega; omega)
      | (apply G_cmpT; eq_refl; eq_refl; omega)
      | (apply G_ix; eq_refl; eq_refl; (first | (apply Rd.own; (repeat first | exact In.here | apply In.there | apply In.skip); infer_instance) | (apply Rd.old; (repeat first | exact In.here | apply In.there | apply In.skip); assumption) | (apply Rd.oldR; (repeat first | exact In.here | apply In.there | apply In.skip); assumption) | exact Rd.nil | assumption); (first | eq_refl | omega); omega; omega)
      | (apply G_neqB; eq_refl; eq_refl)
      | (apply G_alloc; eq_refl; intro _)
      | (apply G_stW; (first | exact wr_p | kernel_rfl); eq_refl; eq_refl; eq_refl; eq_refl; (repeat first | exact Upd.here | apply Upd.there | apply Upd.skip); eq_refl))
          exact ⟨i + 1, (by repeat first | exact trivial | refine ⟨rfl, ?_⟩), (by repeat first | exact Wk.nil | exact Wk.refl | (apply Wk.cons; (focus ((repeat first | exact Rem.here | apply Rem.there | apply Rem.skip); done))) | apply Wk.nilv | apply Wk.last | apply Wk.drop), hlt, by omega⟩
    obtain rfl : i = c.ands.length := by omega
    repeat' (first
      | (apply GC_seqK; intro K hK)
      | (apply hK; clear hK K)
      | (clear hK K; apply hK; clear hK K)
      | (apply GC_block)
      | (apply GC_region)
      | (apply GL_nil)
      | (apply thenG_normal)
      | (apply thenG_exit)
      | (apply blockG_hit)
      | (apply GC_exit)
      | (apply GC_if_false; eq_refl)
      | (apply GL_on; eq_refl; eq_refl)
      | (apply G_pv; eq_refl; first | exact trivial | omega)
      | (apply G_field; eq_refl)
      | (apply G_ld; eq_refl; (repeat first | exact In.here | apply In.there | apply In.skip); eq_refl)
      | (apply G_cmpF; eq_refl; eq_refl; omega)
      | (apply G_len; eq_refl))
    refine GC_loopK [11, 7, 172, 173] (fun i : Nat => [(19, .bool ((c.constraints.take i).all (lv v))), (174, nu i)]) (fun _ => [.vec booc 1 4 A2 k3 n, .vec booc 1 4 A1 k1 v, .box b0 51 (ccells c h), .old w none_]) (fun i => i ≤ c.constraints.length) (fun i => c.constraints.length - i) 0 (by repeat first | exact Pick.nil | (apply Pick.cons; eq_refl)) (by repeat first | exact trivial | refine ⟨rfl, ?_⟩) (by repeat first | exact Wk.nil | exact Wk.refl | (apply Wk.cons; (focus ((repeat first | exact Rem.here | apply Rem.there | apply Rem.skip); done))) | apply Wk.nilv | apply Wk.last | apply Wk.drop) (Nat.zero_le _) ?_
    intro i hi
    rcases Nat.lt_or_ge i c.constraints.length with hlt | hge
    · have ht := all_take (p := lv v) hlt
      have hd := R.con (gt_mem (l := c.constraints) (i := (i : Int)) (by omega) (by omega))
      generalize hb : (c.constraints.take i).all (lv v) = b at *
      have hl1 : ∀ Γ A k, In Γ (.vec booc 1 4 A k v) → ∀ w', Mem w' Γ → CVN Try.prog 58 [.slice A v.length k, nu (gt c.constraints (i : Int))] w' fun r N => N = [] ∧ r = .bool (lv v (gt c.constraints (i : Int))) := fun Γ A k hi w' M => hlit Γ A k hi _ hd w' M
      cases b
      all_goals
        repeat' (first
      | (apply G_call; eq_refl; eq_refl; (apply hl1; (repeat first | exact In.here | apply In.there | apply In.skip)); rintro _ _ ⟨rfl, rfl⟩)
      | (apply GC_seqK; intro K hK)
      | (apply hK; clear hK K)
      | (apply GC_block)
      | (apply GC_region)
      | (apply GL_nil)
      | (apply thenG_normal)
      | (apply blockG_normal)
      | (apply GC_skip)
      | (apply GC_if_true; eq_refl)
      | (apply GL_on; eq_refl; eq_refl)
      | (apply GL_off; eq_refl; eq_refl)
      | (apply G_pv; eq_refl; first | exact trivial | omega)
      | (apply G_rd; eq_refl; (first | (apply Rd.own; (repeat first | exact In.here | apply In.there | apply In.skip); infer_instance) | (apply Rd.old; (repeat first | exact In.here | apply In.there | apply In.skip); assumption) | (apply Rd.oldR; (repeat first | exact In.here | apply In.there | apply In.skip); assumption) | exact Rd.nil | assumption); (case ih => infer_instance); omega; omega; eq_refl)
      | (apply G_cmpT; eq_refl; eq_refl; omega)
      | (apply G_ix; eq_refl; eq_refl; (first | (apply Rd.own; (repeat first | exact In.here | apply In.there | apply In.skip); infer_instance) | (apply Rd.old; (repeat first | exact In.here | apply In.there | apply In.skip); assumption) | (apply Rd.oldR; (repeat first | exact In.here | apply In.there | apply In.skip); assumption) | exact Rd.nil | assumption); (first | eq_refl | omega); omega; omega))
        exact ⟨i + 1, by rw [ht]; exact (by repeat first | exact trivial | refine ⟨rfl, ?_⟩), (by repeat first | exact Wk.nil | exact Wk.refl | (apply Wk.cons; (focus ((repeat first | exact Rem.here | apply Rem.there | apply Rem.skip); done))) | apply Wk.nilv | apply Wk.last | apply Wk.drop), hlt, by omega⟩
    have hall : (c.constraints.take i).all (lv v) = β := by rw [List.take_of_length_le hge, hC]
    rw [hall]
    repeat' (first
      | (apply GC_seqK; intro K hK)
      | (apply hK; clear hK K)
      | (clear hK K; apply hK; clear hK K)
      | (apply GC_region)
      | (apply GL_nil)
      | (apply thenG_normal)
      | (apply thenG_exit)
      | (apply blockG_hit)
      | (apply GC_ret)
      | (apply GC_exit)
      | (apply GC_if_false; eq_refl)
      | (apply retG1; eq_refl)
      | (apply GL_on; eq_refl; eq_refl)
      | (apply G_pv; eq_refl; first | exact trivial | omega)
      | (apply G_cmpF; eq_refl; eq_refl; omega)
      | (apply G_eqB; eq_refl; eq_refl))
    exact ⟨[], (by repeat first | exact Wk.nil | exact Wk.refl | (apply Wk.cons; (focus ((repeat first | exact Rem.here | apply Rem.there | apply Rem.skip); done))) | apply Wk.nilv | apply Wk.last | apply Wk.drop), rfl, by cases β <;> rfl⟩
  · have e1 : valsM c s r = [] := if_neg he
    have e2 : nextM c s r = [] := if_neg he
    have e3 : holdsM c s r = false := if_neg he
    rw [e1] at p1
    rw [e2] at p2
    rw [e3] at p3
    have hl0 : ([] : List Bool).length = 0 := rfl
    generalize stepE c s r = ε at *
    repeat' (first
      | (apply G_call; eq_refl; eq_refl; (exact fun w' _ => h5 w'); rintro _ _ ⟨rfl, rfl⟩)
      | (apply G_call; eq_refl; eq_refl; (apply p1; (repeat first | exact In.here | apply In.there | apply In.skip)); rintro _ _ ⟨A1, k1, rfl, rfl⟩)
      | (apply G_call; eq_refl; eq_refl; (apply p2; (repeat first | exact In.here | apply In.there | apply In.skip)); rintro _ _ ⟨A2, k3, rfl, rfl⟩)
      | (apply G_call; eq_refl; eq_refl; (apply p3; (repeat first | exact In.here | apply In.there | apply In.skip)); rintro _ _ ⟨rfl, rfl⟩)
      | (apply GC_seqK; intro K hK)
      | (apply hK; clear hK K)
      | (apply GC_region)
      | (apply GL_nil)
      | (apply thenG_normal)
      | (apply thenG_ret)
      | (apply GC_ret)
      | (apply GC_skip)
      | (apply GC_if_true; eq_refl)
      | (apply GC_if_false; eq_refl)
      | (apply retG1; eq_refl)
      | (apply GL_on; eq_refl; eq_refl)
      | (apply G_pv; eq_refl; first | exact trivial | omega)
      | (apply G_ldW; eq_refl; (repeat first | exact In.here | apply In.there | apply In.skip); eq_refl)
      | (apply G_cmpT; eq_refl; eq_refl; omega)
      | (apply G_len; eq_refl)
      | (apply G_box; eq_refl; eq_refl; intro _))
    exact ⟨[], (by repeat first | exact Wk.nil | exact Wk.refl | (apply Wk.cons; (focus ((repeat first | exact Rem.here | apply Rem.there | apply Rem.skip); done))) | apply Wk.nilv | apply Wk.last | apply Wk.drop), rfl, rfl⟩
end SC
end Go.Proofs.Ytkndegjodnciaaa
end

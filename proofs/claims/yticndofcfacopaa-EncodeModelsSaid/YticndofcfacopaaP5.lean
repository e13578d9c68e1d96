/- Texts of this seat, one behind the other: P5. -/
import Derived.Test.YticndofcfacopaaP4
section
/- Texts of this seat, one behind the other: N4 N5 N6 N7 N8. -/
section
/- encode, trestleref15: Gates, Lit. -/
set_option linter.unusedVariables false
set_option linter.unusedSimpArgs false
namespace Go.Proofs.Yticndofcfacopaa
namespace SC
open Go.Proofs
noncomputable def cnfGV (c : Circ) : Int := if (lookM c).2 = 0 then c.max + 1 else 0
noncomputable def cnfGM (c : Circ) : List (List Int) := if (lookM c).2 = 0 then clsM c (fun _ => true) c.ands.length else []
/-- A formula and what is wrong. -/
def CnfRE (V : Int) (m : List (List Int)) (ε : Int) (v : Value) (N : Mm) : Prop := ∃ ps A k, v = .tuple #[.agg #[nu V, .slice A ps.length k], nu ε] ∧ ps.map (·.2) = m ∧ N = cnB ps A k
theorem cnfRE_no {V : Int} {m : List (List Int)} {ε : Int} (hV : V = 0) (hm : m = []) {Γ : Mm} {w : World} (hw : Wk Γ [.old w none_]) : ∃ N, Wk Γ (N ++ [.old w none_]) ∧ CnfRE V m ε (.tuple #[.agg #[nu 0, .slice none 0 0], nu ε]) N := by
  subst hV hm
  exact ⟨[.vec encS 1 62 none 0 []], (hw.trans (Wk.nilv Wk.refl)), [], none, 0, rfl, rfl, rfl⟩
attribute [local irreducible] WC WL WX WS WO OX Does DoesU Enters CV Pure thenQ blockQ retQ Wants retQC GC GL GS GX RdB thenG blockG retG Rd At gt CVN CVM
set_option maxRecDepth 100000
theorem allT_cv {w : World} {i : Int} : CVN Try.prog 56 ([nu i] ++ (#[] : Array Value).toList) w fun v N => N = [] ∧ v = .bool true := by
  show CVN Try.prog 56 [nu i] w _
  refine CVN.enter 3 [2] Try.func56 rfl rfl rfl (by decide) rfl ?_
  repeat' (first
      | (apply GC_seqK; intro K hK)
      | (apply hK; clear hK K)
      | (apply GC_region)
      | (apply GL_nil)
      | (apply thenG_normal)
      | (apply GC_ret)
      | (apply retG1; eq_refl)
      | (apply GL_on; eq_refl; eq_refl)
      | (apply G_pv; eq_refl; first | exact trivial | omega))
  exact ⟨[], (by repeat first | exact Wk.nil | exact Wk.refl | (apply Wk.cons; (focus ((repeat first | exact Rem.here | apply Rem.there | apply Rem.skip); done))) | apply Wk.nilv | apply Wk.last | apply Wk.drop), rfl, rfl⟩
theorem GatesP_cv {w : World} {c : Circ} {h js : Hd} (H : CirIn w c h js) : CVN Try.prog 21 [.agg (ccells c h).toArray] w (CnfRE (cnfGV c) (cnfGM c) (lookM c).2) := by
  have hck : ∀ Γ, In Γ (.old w none_) → ∀ w', Mem w' Γ → CVN Try.prog 52 [.agg (ccells c h).toArray] w' fun v N => N = [] ∧ v = .tuple #[nu (lookM c).1, nu (lookM c).2] := fun Γ hi w' M => have H' := H.chg (hi.old M); CVN.of (check_cv H'.at_ H'.sane) fun v w' h => ⟨h.2, h.1⟩
  refine CVN.enterC1 (t := 44) 17 2 3 Try.func21 rfl rfl rfl rfl ?_
  by_cases he : (lookM c).2 = 0
  · have R := right_of H.at_ H.sane he
    have e1 : cnfGV c = c.max + 1 := if_pos he
    have e2 : cnfGM c = clsM c (fun _ => true) c.ands.length := if_pos he
    have hm : ∀ Γ, In Γ (.old w none_) → ∀ w', Mem w' Γ → CVN Try.prog 55 [.agg (ccells c h).toArray, .func (.func 56) #[] #[]] w' (CnfR (c.max + 1) (clsM c (fun _ => true) c.ands.length)) := fun Γ ho w' M => made_cv R (H.at_.chg (ho.old M)) fun i _ _ w2 _ => allT_cv
    rw [e1, e2]
    rw [he] at hck ⊢
    generalize (lookM c).1 = n1 at *
    repeat' (first
      | (apply G_call; eq_refl; eq_refl; (apply hck; (repeat first | exact In.here | apply In.there | apply In.skip)); rintro _ _ ⟨rfl, rfl⟩)
      | (apply G_call; eq_refl; eq_refl; (apply hm; (repeat first | exact In.here | apply In.there | apply In.skip)); rintro _ _ ⟨ps, A, kA, rfl, hps, rfl⟩)
      | (apply GC_seqK; intro K hK)
      | (apply hK; clear hK K)
      | (apply GC_region)
      | (apply GL_nil)
      | (apply thenG_normal)
      | (apply GC_ret)
      | (apply GC_skip)
      | (apply GC_if_false; eq_refl)
      | (apply retGC1r; eq_refl; (repeat first | exact In.here | apply In.there | apply In.skip); eq_refl; eq_refl)
      | (apply GL_on; eq_refl; eq_refl)
      | (apply G_pv; eq_refl; first | exact trivial | omega)
      | (apply G_ldW; eq_refl; (repeat first | exact In.here | apply In.there | apply In.skip); eq_refl)
      | (apply G_cmpF; eq_refl; eq_refl; omega)
      | (apply G_alloc; eq_refl; intro _)
      | (apply G_box; eq_refl; eq_refl; intro _)
      | (apply G_stW; (first | exact wr_p | kernel_rfl); eq_refl; eq_refl; eq_refl; eq_refl; (repeat first | exact Upd.here | apply Upd.there | apply Upd.skip); eq_refl))
    exact ⟨cnB ps A kA, (by repeat first | exact Wk.left | exact Wk.nil | exact Wk.refl | (apply Wk.cons; (focus ((repeat first | exact Rem.here | apply Rem.there | apply Rem.skip); done))) | apply Wk.nilv | apply Wk.last | apply Wk.drop), ps, A, kA, rfl, hps, rfl⟩
  · have e1 : cnfGV c = 0 := if_neg he
    have e2 : cnfGM c = [] := if_neg he
    generalize (lookM c).1 = n1 at *
    generalize (lookM c).2 = ε at *
    repeat' (first
      | (apply G_call; eq_refl; eq_refl; (apply hck; (repeat first | exact In.here | apply In.there | apply In.skip)); rintro _ _ ⟨rfl, rfl⟩)
      | (apply GC_seqK; intro K hK)
      | (apply hK; clear hK K)
      | (apply GC_region)
      | (apply GL_nil)
      | (apply thenG_normal)
      | (apply thenG_ret)
      | (apply GC_ret)
      | (apply GC_if_true; eq_refl)
      | (apply retGC1r; eq_refl; (repeat first | exact In.here | apply In.there | apply In.skip); eq_refl; eq_refl)
      | (apply GL_on; eq_refl; eq_refl)
      | (apply G_pv; eq_refl; first | exact trivial | omega)
      | (apply G_ldW; eq_refl; (repeat first | exact In.here | apply In.there | apply In.skip); eq_refl)
      | (apply G_cmpT; eq_refl; eq_refl; omega)
      | (apply G_alloc; eq_refl; intro _)
      | (apply G_box; eq_refl; eq_refl; intro _)
      | (apply G_stW; (first | exact wr_p | kernel_rfl); eq_refl; eq_refl; eq_refl; eq_refl; (repeat first | exact Upd.here | apply Upd.there | apply Upd.skip); eq_refl)
      | (apply GX_pure; apply build44_))
    exact cnfRE_no e1 e2 (by repeat first | exact Wk.nil | exact Wk.refl | (apply Wk.cons; (focus ((repeat first | exact Rem.here | apply Rem.there | apply Rem.skip); done))) | apply Wk.nilv | apply Wk.last | apply Wk.drop)
end SC
end Go.Proofs.Yticndofcfacopaa
end
section
/- encode, trestleref15: Model, Step. -/
set_option linter.unusedVariables false
set_option linter.unusedSimpArgs false
namespace Go.Proofs.Yticndofcfacopaa
namespace SC
open Go.Proofs
theorem set_same {l : List Bool} {v : Int} {b : Bool} (h0 : 0 ≤ v) (h : v < l.length) (hb : gt l v = b) : l.set v.toNat b = l := by
  obtain ⟨h1, h2⟩ := gt_get h0 h
  rw [← hb, h2]
  exact List.set_getElem_self h1
/-- The state and the row of a model. -/
def stM15 (c : Circ) (m : List Bool) : List Bool := c.latches.map fun x => gt m (x.1 / 2)
def rwM15 (c : Circ) (m : List Bool) : List Bool := c.inputs.map fun l => gt m (l / 2)
noncomputable def mdE (c : Circ) (m : List Bool) : Int := if (lookM c).2 ≠ 0 then (lookM c).2 else if (m.length : Int) ≠ c.max + 1 then 4 else 0
theorem mdE_look {c : Circ} {m : List Bool} (h : (lookM c).2 ≠ 0) : mdE c m = (lookM c).2 := if_pos h
theorem mdE_len {c : Circ} {m : List Bool} (h : (lookM c).2 = 0) (h2 : (m.length : Int) ≠ c.max + 1) : mdE c m = 4 := by unfold mdE; rw [if_neg (by omega), if_pos h2]
theorem mdE_ok {c : Circ} {m : List Bool} (h : (lookM c).2 = 0) (h2 : (m.length : Int) = c.max + 1) : mdE c m = 0 := by unfold mdE; rw [if_neg (by omega), if_neg (by omega)]
noncomputable def sM (c : Circ) (m : List Bool) : List Bool := if mdE c m = 0 then stM15 c m else []
noncomputable def rM (c : Circ) (m : List Bool) : List Bool := if mdE c m = 0 then rwM15 c m else []
def StepER (s r : List Bool) (ε : Int) (v : Value) (N : Mm) : Prop := ∃ A k B k', v = .tuple #[.slice A s.length k, .slice B r.length k', nu ε] ∧ N = [.vec booc 1 4 A k s, .vec booc 1 4 B k' r]
attribute [local irreducible] WC WL WX WS WO OX Does DoesU Enters CV Pure thenQ blockQ retQ Wants retQC GC GL GS GX RdB thenG blockG retG Rd At gt CVN CVM
set_option maxRecDepth 100000
section
variable {w : World} {c : Circ} {h js : Hd} {S T : Option Addr} {k2 k3 : Nat} {s r : List Bool} (H : CirIn w c h js) (hS : RowA w booc 1 S s) (hT : RowA w booc 1 T r)
include H hS hT
theorem ModelP_cv : CVN Try.prog 13 [.agg (ccells c h).toArray, .slice S s.length k2, .slice T r.length k3] w (ValsR c s r) := by
  have hv : ∀ Γ, In Γ (.old w none_) → ∀ w', Mem w' Γ → CVN Try.prog 31 [.agg (ccells c h).toArray, .slice S s.length k2, .slice T r.length k3] w' (ValsR c s r) := fun Γ hi w' M => ValuesP_cv (H.chg (hi.old M)) (hS.chg (hi.old M)) (hT.chg (hi.old M))
  refine CVN.enter 14 [6, 7] Try.func13 rfl rfl rfl (by decide) rfl ?_
  unfold ValsR at hv
  repeat' (first
      | (apply G_call; eq_refl; eq_refl; (apply hv; (repeat first | exact In.here | apply In.there | apply In.skip)); rintro _ _ ⟨A1, k1, rfl, rfl⟩)
      | (apply GC_seqK; intro K hK)
      | (apply hK; clear hK K)
      | (apply GC_region)
      | (apply GL_nil)
      | (apply thenG_normal)
      | (apply GC_ret)
      | (apply retG2; eq_refl; eq_refl)
      | (apply GL_on; eq_refl; eq_refl)
      | (apply G_pv; eq_refl; first | exact trivial | omega)
      | (apply G_ldW; eq_refl; (repeat first | exact In.here | apply In.there | apply In.skip); eq_refl)
      | (apply G_box; eq_refl; eq_refl; intro _))
  exact ⟨[_], (by repeat first | exact Wk.nil | exact Wk.refl | (apply Wk.cons; (focus ((repeat first | exact Rem.here | apply Rem.there | apply Rem.skip); done))) | apply Wk.nilv | apply Wk.last | apply Wk.drop), A1, k1, rfl, rfl⟩
theorem ModelRef_cv : CVN Try.prog 14 [.agg (ccells c h).toArray, .slice S s.length k2, .slice T r.length k3] w (ValsR c s r) := by
  have hv : ∀ Γ, In Γ (.old w none_) → ∀ w', Mem w' Γ → CVN Try.prog 51 [.agg (ccells c h).toArray, .slice S s.length k2, .slice T r.length k3] w' (ValsR c s r) := fun Γ hi w' M => Values_cv (H.chg (hi.old M)) (hS.chg (hi.old M)) (hT.chg (hi.old M))
  refine CVN.enter 23 [6, 7] Try.func14 rfl rfl rfl (by decide) rfl ?_
  unfold ValsR at hv ⊢
  by_cases he : stepE c s r = 0
  · have e1 : valsM c s r = valM c s r := if_pos he
    have R := right_of H.at_ H.sane (stepE_zero he).1
    have m0 := R.m0
    have hl := valM_len c s r
    have h0 : gt (valM c s r) 0 = false := R.val_no s r (Int.le_refl _) fun k hk => by have := R.defs hk; unfold defR at this; omega
    have e2 := set_same (Int.le_refl 0) (by omega) h0
    rw [e1, he] at hv ⊢
    generalize valM c s r = V at *
    repeat' (first
      | (apply G_call; eq_refl; eq_refl; (apply hv; (repeat first | exact In.here | apply In.there | apply In.skip)); rintro _ _ ⟨A1, k1, rfl, rfl⟩)
      | (apply GC_seqK; intro K hK)
      | (apply hK; clear hK K)
      | (apply GC_region)
      | (apply GL_nil)
      | (apply thenG_normal)
      | (apply GC_ret)
      | (apply GC_skip)
      | (apply GC_if_false; eq_refl)
      | (apply retG2; eq_refl; eq_refl)
      | (apply GL_on; eq_refl; eq_refl)
      | (apply G_pv; eq_refl; first | exact trivial | omega)
      | (apply G_ldW; eq_refl; (repeat first | exact In.here | apply In.there | apply In.skip); eq_refl)
      | (apply G_cmpF; eq_refl; eq_refl; omega)
      | (apply G_ix; eq_refl; eq_refl; (first | (apply Rd.own; (repeat first | exact In.here | apply In.there | apply In.skip); infer_instance) | (apply Rd.old; (repeat first | exact In.here | apply In.there | apply In.skip); assumption) | (apply Rd.oldR; (repeat first | exact In.here | apply In.there | apply In.skip); assumption) | exact Rd.nil | assumption); (first | eq_refl | omega); omega; omega)
      | (apply G_box; eq_refl; eq_refl; intro _)
      | (apply G_stV; (first | exact wr_p | kernel_rfl); eq_refl; eq_refl; eq_refl; eq_refl; (repeat first | exact Upd.here | apply Upd.there | apply Upd.skip); infer_instance; infer_instance; eq_refl; omega; (try simp only [List.length_set, List.length_append, List.length_replicate]); omega))
    exact ⟨[.vec booc 1 4 A1 k1 V], (by rw [e2]; exact (by repeat first | exact Wk.nil | exact Wk.refl | (apply Wk.cons; (focus ((repeat first | exact Rem.here | apply Rem.there | apply Rem.skip); done))) | apply Wk.nilv | apply Wk.last | apply Wk.drop)), A1, k1, rfl, rfl⟩
  · have e1 : valsM c s r = [] := if_neg he
    rw [e1] at hv ⊢
    generalize stepE c s r = ε at *
    repeat' (first
      | (apply G_call; eq_refl; eq_refl; (apply hv; (repeat first | exact In.here | apply In.there | apply In.skip)); rintro _ _ ⟨A1, k1, rfl, rfl⟩)
      | (apply GC_seqK; intro K hK)
      | (apply hK; clear hK K)
      | (apply GC_region)
      | (apply GL_nil)
      | (apply thenG_normal)
      | (apply thenG_ret)
      | (apply GC_ret)
      | (apply GC_if_true; eq_refl)
      | (apply retG2; eq_refl; eq_refl)
      | (apply GL_on; eq_refl; eq_refl)
      | (apply G_pv; eq_refl; first | exact trivial | omega)
      | (apply G_ldW; eq_refl; (repeat first | exact In.here | apply In.there | apply In.skip); eq_refl)
      | (apply G_cmpT; eq_refl; eq_refl; omega)
      | (apply G_box; eq_refl; eq_refl; intro _))
    exact ⟨[.vec booc 1 4 none 0 []], (by repeat first | exact Wk.nil | exact Wk.refl | (apply Wk.cons; (focus ((repeat first | exact Rem.here | apply Rem.there | apply Rem.skip); done))) | apply Wk.nilv | apply Wk.last | apply Wk.drop), none, 0, rfl, rfl⟩
end
theorem take_snoc {α β : Type} [Inhabited α] {f : α → β} {l : List α} {i : Nat} (h : i < l.length) : (l.take (i + 1)).map f = (l.take i).map f ++ [f (gt l (i : Int))] := by
  rw [List.take_succ_eq_append_getElem h, List.map_append, gt_nat h]
  rfl
theorem StepP_cv {w : World} {c : Circ} {h js : Hd} {S : Option Addr} {k2 : Nat} {m : List Bool} (H : CirIn w c h js) (hS : RowA w booc 1 S m) : CVN Try.prog 16 [.agg (ccells c h).toArray, .slice S m.length k2] w (StepER (sM c m) (rM c m) (mdE c m)) := by
  have hck : ∀ Γ, In Γ (.old w none_) → ∀ w', Mem w' Γ → CVN Try.prog 52 [.agg (ccells c h).toArray] w' fun v N => N = [] ∧ v = .tuple #[nu (lookM c).1, nu (lookM c).2] := fun Γ hi w' M => have H' := H.chg (hi.old M); CVN.of (check_cv H'.at_ H'.sane) fun v w' h => ⟨h.2, h.1⟩
  have hLat := H.at_.latches
  have hInp := H.at_.inputs
  refine CVN.enter 62 [4, 5, 6] Try.func16 rfl rfl rfl (by decide) rfl ?_
  by_cases he : (lookM c).2 = 0
  · have R := right_of H.at_ H.sane he
    have m0 := R.m0
    have m1 := R.m1
    have n1 := R.nIn
    have n2 := R.nLat
    by_cases hl : (m.length : Int) = c.max + 1
    · have e0 := mdE_ok he hl
      have e1 : sM c m = stM15 c m := if_pos e0
      have e2 : rM c m = rwM15 c m := if_pos e0
      rw [e0, e1, e2]
      rw [he] at hck
      generalize (lookM c).1 = n0 at *
      repeat' (first
      | (apply G_call; eq_refl; eq_refl; (apply hck; (repeat first | exact In.here | apply In.there | apply In.skip)); rintro _ _ ⟨rfl, rfl⟩)
      | (apply GC_seqK; intro K hK)
      | (apply hK; clear hK K)
      | (apply GC_block)
      | (apply GC_region)
      | (apply GL_nil)
      | (apply thenG_normal)
      | (apply GC_skip)
      | (apply GC_if_false; eq_refl)
      | (apply GL_on; eq_refl; eq_refl)
      | (apply G_pv; eq_refl; first | exact trivial | omega)
      | (apply G_field; eq_refl)
      | (apply G_ld; eq_refl; (repeat first | exact In.here | apply In.there | apply In.skip); eq_refl)
      | (apply G_ldW; eq_refl; (repeat first | exact In.here | apply In.there | apply In.skip); eq_refl)
      | (apply G_cmpF; eq_refl; eq_refl; omega)
      | (apply G_len; eq_refl)
      | (apply G_box; eq_refl; eq_refl; intro _))
      rename_i b2
      refine GC_loopK [1, 2, 5, 28, 29] (fun s : Nat × List Bool × Option Addr × Nat => [(4, .slice s.2.2.1 s.2.1.length s.2.2.2), (30, nu s.1)]) (fun s => [.vec booc 1 4 s.2.2.1 s.2.2.2 s.2.1, .box b2 29 (ccells c h), .old w none_]) (fun s => s.1 ≤ c.latches.length ∧ s.2.1 = (c.latches.take s.1).map fun x => gt m (x.1 / 2)) (fun s => c.latches.length - s.1) (0, [], none, 0) (by repeat first | exact Pick.nil | (apply Pick.cons; eq_refl)) (by repeat first | exact trivial | refine ⟨rfl, ?_⟩) (by repeat first | exact Wk.nil | exact Wk.refl | (apply Wk.cons; (focus ((repeat first | exact Rem.here | apply Rem.there | apply Rem.skip); done))) | apply Wk.nilv | apply Wk.last | apply Wk.drop) ⟨Nat.zero_le _, rfl⟩ ?_
      rintro ⟨i, o, C, kC⟩ ⟨hi, ho⟩
      dsimp only at hi ho ⊢
      have hol : o.length = i := by have := congrArg List.length ho; simp at this; omega
      rcases Nat.lt_or_ge i c.latches.length with hlt | hge
      · have g1 := (R.lat (gt_mem (l := c.latches) (i := (i : Int)) (by omega) (by omega))).1
        have e5 := take_snoc (f := fun x : Tri => gt m (x.1 / 2)) hlt
        unfold defR at g1
        repeat' (first
      | (apply GC_seqK; intro K hK)
      | (apply hK; clear hK K)
      | (apply GC_block)
      | (apply GC_region)
      | (apply GL_nil)
      | (apply thenG_normal)
      | (apply blockG_normal)
      | (apply GC_skip)
      | (apply GC_if_true; eq_refl)
      | (apply GL_on; eq_refl; eq_refl)
      | (apply G_pv; eq_refl; first | exact trivial | omega)
      | (apply G_field; eq_refl)
      | (apply G_ld; eq_refl; (repeat first | exact In.here | apply In.there | apply In.skip); eq_refl)
      | (apply G_rd; eq_refl; (first | (apply Rd.own; (repeat first | exact In.here | apply In.there | apply In.skip); infer_instance) | (apply Rd.old; (repeat first | exact In.here | apply In.there | apply In.skip); assumption) | (apply Rd.oldR; (repeat first | exact In.here | apply In.there | apply In.skip); assumption) | exact Rd.nil | assumption); (case ih => infer_instance); omega; omega; eq_refl)
      | (apply G_rdW; eq_refl; (first | (apply Rd.own; (repeat first | exact In.here | apply In.there | apply In.skip); infer_instance) | (apply Rd.old; (repeat first | exact In.here | apply In.there | apply In.skip); assumption) | (apply Rd.oldR; (repeat first | exact In.here | apply In.there | apply In.skip); assumption) | exact Rd.nil | assumption); infer_instance; (case ih => infer_instance); omega; omega)
      | (apply G_cmpT; eq_refl; eq_refl; omega)
      | (apply G_ix; eq_refl; eq_refl; (first | (apply Rd.own; (repeat first | exact In.here | apply In.there | apply In.skip); infer_instance) | (apply Rd.old; (repeat first | exact In.here | apply In.there | apply In.skip); assumption) | (apply Rd.oldR; (repeat first | exact In.here | apply In.there | apply In.skip); assumption) | exact Rd.nil | assumption); (first | eq_refl | omega); omega; omega)
      | (apply G_alloc; eq_refl; intro _)
      | (apply G_stW; (first | exact wr_p | kernel_rfl); eq_refl; eq_refl; eq_refl; eq_refl; (repeat first | exact Upd.here | apply Upd.there | apply Upd.skip); eq_refl)
      | (apply G_app; (first | exact wr_p | kernel_rfl); eq_refl; eq_refl; (intro A c; (repeat first | exact Upd.here | apply Upd.there | apply Upd.skip)); infer_instance; (repeat first | exact In.here | apply In.there | apply In.skip); (repeat first | exact Dec.nil | apply Dec.pr | apply Dec.tr | (apply Dec.c1; eq_refl) | (apply Dec.c2; eq_refl) | (apply Dec.c3; eq_refl)); eq_refl; eq_refl; eq_refl; ((try simp only [List.length_append, List.length_cons, List.length_nil]); omega); decide; intro _ _)
      | (apply G_new (fun b => .slice (some ⟨b, 0, none⟩) 1 1); eq_refl; (intro _; apply buildS30_1 <;> eq_refl); intro _))
        exact ⟨(i + 1, _, _, _), (by repeat first | exact trivial | refine ⟨rfl, ?_⟩), (by repeat first | exact Wk.nil | exact Wk.refl | (apply Wk.cons; (focus ((repeat first | exact Rem.here | apply Rem.there | apply Rem.skip); done))) | apply Wk.nilv | apply Wk.last | apply Wk.drop), ⟨hlt, by simp only; rw [e5, ← ho]⟩, by simp only; omega⟩
      obtain rfl : i = c.latches.length := by omega
      rw [List.take_length] at ho
      repeat' (first
      | (apply GC_seqK; intro K hK)
      | (apply hK; clear hK K)
      | (clear hK K; apply hK; clear hK K)
      | (apply GC_block)
      | (apply GC_region)
      | (apply GL_nil)
      | (apply thenG_normal)
      | (apply thenG_exit)
      | (apply blockG_hit)
      | (apply GC_exit)
      | (apply GC_if_false; eq_refl)
      | (apply GL_on; eq_refl; eq_refl)
      | (apply G_pv; eq_refl; first | exact trivial | omega)
      | (apply G_field; eq_refl)
      | (apply G_ld; eq_refl; (repeat first | exact In.here | apply In.there | apply In.skip); eq_refl)
      | (apply G_cmpF; eq_refl; eq_refl; omega)
      | (apply G_len; eq_refl))
      refine GC_loopK [1, 2, 4, 45, 46] (fun s : Nat × List Bool × Option Addr × Nat => [(5, .slice s.2.2.1 s.2.1.length s.2.2.2), (47, nu s.1)]) (fun s => [.vec booc 1 4 s.2.2.1 s.2.2.2 s.2.1, .vec booc 1 4 C kC o, .box b2 29 (ccells c h), .old w none_]) (fun s => s.1 ≤ c.inputs.length ∧ s.2.1 = (c.inputs.take s.1).map fun l => gt m (l / 2)) (fun s => c.inputs.length - s.1) (0, [], none, 0) (by repeat first | exact Pick.nil | (apply Pick.cons; eq_refl)) (by repeat first | exact trivial | refine ⟨rfl, ?_⟩) (by repeat first | exact Wk.nil | exact Wk.refl | (apply Wk.cons; (focus ((repeat first | exact Rem.here | apply Rem.there | apply Rem.skip); done))) | apply Wk.nilv | apply Wk.last | apply Wk.drop) ⟨Nat.zero_le _, rfl⟩ ?_
      rintro ⟨i, o2, D, kD⟩ ⟨hi2, ho2⟩
      dsimp only at hi2 ho2 ⊢
      have hol2 : o2.length = i := by have := congrArg List.length ho2; simp at this; omega
      rcases Nat.lt_or_ge i c.inputs.length with hlt | hge2
      · have g1 := R.inp (gt_mem (l := c.inputs) (i := (i : Int)) (by omega) (by omega))
        have e5 := take_snoc (f := fun l : Int => gt m (l / 2)) hlt
        unfold defR at g1
        repeat' (first
      | (apply GC_seqK; intro K hK)
      | (apply hK; clear hK K)
      | (apply GC_block)
      | (apply GC_region)
      | (apply GL_nil)
      | (apply thenG_normal)
      | (apply blockG_normal)
      | (apply GC_skip)
      | (apply GC_if_true; eq_refl)
      | (apply GL_on; eq_refl; eq_refl)
      | (apply G_pv; eq_refl; first | exact trivial | omega)
      | (apply G_rd; eq_refl; (first | (apply Rd.own; (repeat first | exact In.here | apply In.there | apply In.skip); infer_instance) | (apply Rd.old; (repeat first | exact In.here | apply In.there | apply In.skip); assumption) | (apply Rd.oldR; (repeat first | exact In.here | apply In.there | apply In.skip); assumption) | exact Rd.nil | assumption); (case ih => infer_instance); omega; omega; eq_refl)
      | (apply G_cmpT; eq_refl; eq_refl; omega)
      | (apply G_ix; eq_refl; eq_refl; (first | (apply Rd.own; (repeat first | exact In.here | apply In.there | apply In.skip); infer_instance) | (apply Rd.old; (repeat first | exact In.here | apply In.there | apply In.skip); assumption) | (apply Rd.oldR; (repeat first | exact In.here | apply In.there | apply In.skip); assumption) | exact Rd.nil | assumption); (first | eq_refl | omega); omega; omega)
      | (apply G_app; (first | exact wr_p | kernel_rfl); eq_refl; eq_refl; (intro A c; (repeat first | exact Upd.here | apply Upd.there | apply Upd.skip)); infer_instance; (repeat first | exact In.here | apply In.there | apply In.skip); (repeat first | exact Dec.nil | apply Dec.pr | apply Dec.tr | (apply Dec.c1; eq_refl) | (apply Dec.c2; eq_refl) | (apply Dec.c3; eq_refl)); eq_refl; eq_refl; eq_refl; ((try simp only [List.length_append, List.length_cons, List.length_nil]); omega); decide; intro _ _)
      | (apply G_new (fun b => .slice (some ⟨b, 0, none⟩) 1 1); eq_refl; (intro _; apply buildS30_1 <;> eq_refl); intro _))
        exact ⟨(i + 1, _, _, _), (by repeat first | exact trivial | refine ⟨rfl, ?_⟩), (by repeat first | exact Wk.nil | exact Wk.refl | (apply Wk.cons; (focus ((repeat first | exact Rem.here | apply Rem.there | apply Rem.skip); done))) | apply Wk.nilv | apply Wk.last | apply Wk.drop), ⟨hlt, by simp only; rw [e5, ← ho2]⟩, by simp only; omega⟩
      obtain rfl : i = c.inputs.length := by omega
      rw [List.take_length] at ho2
      repeat' (first
      | (apply GC_seqK; intro K hK)
      | (apply hK; clear hK K)
      | (clear hK K; apply hK; clear hK K)
      | (apply GC_region)
      | (apply GL_nil)
      | (apply thenG_normal)
      | (apply thenG_exit)
      | (apply blockG_hit)
      | (apply GC_ret)
      | (apply GC_exit)
      | (apply GC_if_false; eq_refl)
      | (apply retG3; eq_refl; eq_refl; eq_refl)
      | (apply GL_on; eq_refl; eq_refl)
      | (apply G_pv; eq_refl; first | exact trivial | omega)
      | (apply G_cmpF; eq_refl; eq_refl; omega))
      exact ⟨[.vec booc 1 4 C kC o, .vec booc 1 4 D kD o2], (by repeat first | exact Wk.nil | exact Wk.refl | (apply Wk.cons; (focus ((repeat first | exact Rem.here | apply Rem.there | apply Rem.skip); done))) | apply Wk.nilv | apply Wk.last | apply Wk.drop), C, kC, D, kD, by rw [ho, ho2]; rfl, by rw [ho, ho2]; rfl⟩
    · have e0 := mdE_len he hl
      have e1 : sM c m = [] := if_neg (by rw [e0]; decide)
      have e2 : rM c m = [] := if_neg (by rw [e0]; decide)
      rw [e0, e1, e2]
      rw [he] at hck
      generalize (lookM c).1 = n0 at *
      repeat' (first
      | (apply G_call; eq_refl; eq_refl; (apply hck; (repeat first | exact In.here | apply In.there | apply In.skip)); rintro _ _ ⟨rfl, rfl⟩)
      | (apply GC_seqK; intro K hK)
      | (apply hK; clear hK K)
      | (apply GC_region)
      | (apply GL_nil)
      | (apply thenG_normal)
      | (apply thenG_ret)
      | (apply GC_ret)
      | (apply GC_skip)
      | (apply GC_if_true; eq_refl)
      | (apply GC_if_false; eq_refl)
      | (apply retG3; eq_refl; eq_refl; eq_refl)
      | (apply GL_on; eq_refl; eq_refl)
      | (apply G_pv; eq_refl; first | exact trivial | omega)
      | (apply G_field; eq_refl)
      | (apply G_ld; eq_refl; (repeat first | exact In.here | apply In.there | apply In.skip); eq_refl)
      | (apply G_ldW; eq_refl; (repeat first | exact In.here | apply In.there | apply In.skip); eq_refl)
      | (apply G_cmpT; eq_refl; eq_refl; omega)
      | (apply G_cmpF; eq_refl; eq_refl; omega)
      | (apply G_len; eq_refl)
      | (apply G_box; eq_refl; eq_refl; intro _))
      exact ⟨[.vec booc 1 4 none 0 [], .vec booc 1 4 none 0 []], (by repeat first | exact Wk.nil | exact Wk.refl | (apply Wk.cons; (focus ((repeat first | exact Rem.here | apply Rem.there | apply Rem.skip); done))) | apply Wk.nilv | apply Wk.last | apply Wk.drop), none, 0, none, 0, rfl, rfl⟩
  · have e0 := mdE_look (m := m) he
    have e1 : sM c m = [] := if_neg (by rw [e0]; exact he)
    have e2 : rM c m = [] := if_neg (by rw [e0]; exact he)
    rw [e0, e1, e2]
    generalize (lookM c).1 = n0 at *
    generalize (lookM c).2 = ε at *
    repeat' (first
      | (apply G_call; eq_refl; eq_refl; (apply hck; (repeat first | exact In.here | apply In.there | apply In.skip)); rintro _ _ ⟨rfl, rfl⟩)
      | (apply GC_seqK; intro K hK)
      | (apply hK; clear hK K)
      | (apply GC_region)
      | (apply GL_nil)
      | (apply thenG_normal)
      | (apply thenG_ret)
      | (apply GC_ret)
      | (apply GC_if_true; eq_refl)
      | (apply retG3; eq_refl; eq_refl; eq_refl)
      | (apply GL_on; eq_refl; eq_refl)
      | (apply G_pv; eq_refl; first | exact trivial | omega)
      | (apply G_ldW; eq_refl; (repeat first | exact In.here | apply In.there | apply In.skip); eq_refl)
      | (apply G_cmpT; eq_refl; eq_refl; omega)
      | (apply G_box; eq_refl; eq_refl; intro _))
    exact ⟨[.vec booc 1 4 none 0 [], .vec booc 1 4 none 0 []], (by repeat first | exact Wk.nil | exact Wk.refl | (apply Wk.cons; (focus ((repeat first | exact Rem.here | apply Rem.there | apply Rem.skip); done))) | apply Wk.nilv | apply Wk.last | apply Wk.drop), none, 0, none, 0, rfl, rfl⟩
end SC
end Go.Proofs.Yticndofcfacopaa
end
section
/- trestleref15: Step. -/
set_option linter.unusedVariables false
set_option linter.unusedSimpArgs false
namespace Go.Proofs.Yticndofcfacopaa
namespace SC
open Go.Proofs
theorem Dec.all {α : Type} {enc : α → List Value} : ∀ l : List α, Dec enc (l.flatMap enc) l
  | [] => Dec.nil
  | a :: r => by rw [List.flatMap_cons]; exact Dec.cg (Dec.all r)
theorem made_cells {α : Type} {enc : α → List Value} {sz : Nat} (N : Enc enc sz) {a : α} {zv : Value} (k : Nat) (ha : enc a = zv.cells.toList) : (madeCells zv.cells (k * sz)).toList = (List.replicate k a).flatMap enc := by
  have hz : zv.cells.size = sz := by rw [← Array.length_toList, ← ha, N.len]
  apply List.ext_getElem?
  intro j
  have hpos := N.pos
  have hlen : ∀ k : Nat, ((List.replicate k a).flatMap enc).length = k * sz := fun k => by
    induction k with
    | zero => simp
    | succ k ih => rw [List.replicate_succ, List.flatMap_cons, List.length_append, ih, N.len, Nat.succ_mul, Nat.add_comm]
  by_cases hj : j < k * sz
  · have h1 : (madeCells zv.cells (k * sz)).toList[j]? = zv.cells[j % sz]? := by
      simp only [madeCells]
      simp [hj, hz, Nat.mod_lt _ hpos]
    rw [h1]
    have h2 := flatMap_get enc sz N.len (List.replicate k a) (j / sz) (by rw [List.length_replicate]; exact Nat.div_lt_of_lt_mul (by rw [Nat.mul_comm]; exact hj)) (j % sz) (Nat.mod_lt _ hpos)
    rw [show j / sz * sz + j % sz = j by rw [Nat.mul_comm]; exact Nat.div_add_mod j sz] at h2
    rw [h2, List.getElem_replicate, ha]
    simp
  · rw [List.getElem?_eq_none (by simp [madeCells]; omega), List.getElem?_eq_none (by rw [hlen]; omega)]
/-- New rows that come in any order. -/
theorem GS_flMake {P : Program} {n : Nat} {all : List Oper} {K : Env → Mm → Prop} {A : List Fl} {Θ : Mm} {r : List PStep} {e : Env} {Γ : Mm} {i d q k : Nat} {ty t t0 : TypeId} {pos : String} {af : Array Edge} {α : Type} (enc : α → List Value) {a : α} {ik : IntKind} {td : TypeDesc} {sz sz1 by_ by1 : Nat} {zv z1 : Value} {ag ag1 : Bool} [N : Enc enc sz]
    (ho : nth all i = some ⟨some d, .makeSlice t (.tmp q) (.tmp q), ty, pos, af, none⟩) (U : Ty P t (.slice t0) sz1 z1 by1 ag1) (T : Ty P t0 td sz zv by_ ag) (hv : look e q = some (.int ik (k : Int))) (ha : enc a = zv.cells.toList) (hn : by_ * k ≤ 281474976710656) (h1 : 1 ≤ by_) (hd : slotOk n (some d) = true) (hk : keyFree e (some d) = true) (hA : offA A (some d) = true)
    (hr : GS P n all K (⟨i, d, fun b => .slice (some ⟨b, 0, none⟩) k k, t0, ((List.replicate k a).flatMap enc).toArray, [(q, .int ik (k : Int))]⟩ :: A) Θ r e Γ) : GS P n all K A Θ (.f i :: r) e Γ := by
  have hk1 : k ≤ by_ * k := Nat.le_mul_of_pos_left _ h1
  have e1 : madeCells zv.cells (k * sz) = ((List.replicate k a).flatMap enc).toArray := by rw [← made_cells N k ha]
  refine GS_flX [(q, .int ik (k : Int))] (fun b => .slice (some ⟨b, 0, none⟩) k k) ho ⟨hv, trivial⟩ (fun w => ?_) hd hk hA hr
  have := does_makeSlice (P := P) (ty := ty) (w := w) (t := t) (x := .tmp q) (e := [(q, .int ik (k : Int))]) U.und T (n := k) (k := ik) (by simp [ev, look]) (by rw [← Int.natCast_mul]; exact Int.ofNat_le.2 hn) (by omega)
  rw [e1] at this
  exact this
attribute [local irreducible] WC WL WX WS WO OX Does DoesU Enters CV Pure thenQ blockQ retQ Wants retQC GC GL GS GX RdB thenG blockG retG Rd At gt CVN CVM
set_option maxRecDepth 100000
theorem StepRef_cv {w : World} {c : Circ} {h js : Hd} {S : Option Addr} {k2 : Nat} {m : List Bool} (H : CirIn w c h js) (hS : RowA w booc 1 S m) : CVN Try.prog 17 [.agg (ccells c h).toArray, .slice S m.length k2] w (StepER (sM c m) (rM c m) (mdE c m)) := by
  have hck : ∀ Γ, In Γ (.old w none_) → ∀ w', Mem w' Γ → CVN Try.prog 53 [.agg (ccells c h).toArray] w' fun v N => N = [] ∧ v = .tuple #[nu (lookM c).1, nu (lookM c).2] := fun Γ hi w' M => have H' := H.chg (hi.old M); CVN.of (checkRef_cv H'.at_ H'.sane H'.okay H'.fits) fun v w' h => ⟨h.2, h.1⟩
  have hLat := H.at_.latches
  have hInp := H.at_.inputs
  refine CVN.enter 76 [4, 5, 6] Try.func17 rfl rfl rfl (by decide) rfl ?_
  by_cases he : (lookM c).2 = 0
  · have R := right_of H.at_ H.sane he
    have m0 := R.m0
    have m1 := R.m1
    have n1 := R.nIn
    have n2 := R.nLat
    by_cases hl : (m.length : Int) = c.max + 1
    · have e0 := mdE_ok he hl
      have e1 : sM c m = stM15 c m := if_pos e0
      have e2 : rM c m = rwM15 c m := if_pos e0
      rw [e0, e1, e2]
      rw [he] at hck
      generalize (lookM c).1 = n0 at *
      repeat' (first
      | (apply G_call; eq_refl; eq_refl; (apply hck; (repeat first | exact In.here | apply In.there | apply In.skip)); rintro _ _ ⟨rfl, rfl⟩)
      | (apply GC_seqK; intro K hK)
      | (apply hK; clear hK K)
      | (apply GC_block)
      | (apply GC_region)
      | (apply GL_nil)
      | (apply thenG_normal)
      | (apply GC_skip)
      | (apply GC_if_false; eq_refl)
      | (apply GL_on; eq_refl; eq_refl)
      | (refine GC_draws (id := 6) [.q 0, .q 1, .q 2, .q 4, .q 5, .q 6, .f 7, .c 3, .q 8, .land, .q 9] mixed (by kernel_rfl) (by kernel_rfl) ?_)
      | (apply GS_nil)
      | (apply GS_qon; eq_refl; eq_refl; eq_refl; eq_refl)
      | (apply GS_con; eq_refl; eq_refl; eq_refl; eq_refl)
      | (apply GS_flMake booc; eq_refl; infer_instance; infer_instance; eq_refl; eq_refl; omega; decide; eq_refl; eq_refl; eq_refl)
      | (apply GS_land; simp only [landG]; intros)
      | (apply G_pv; eq_refl; first | exact trivial | omega)
      | (apply G_field; eq_refl)
      | (apply G_ld; eq_refl; (repeat first | exact In.here | apply In.there | apply In.skip); eq_refl)
      | (apply G_ldW; eq_refl; (repeat first | exact In.here | apply In.there | apply In.skip); eq_refl)
      | (apply G_cmpF; eq_refl; eq_refl; omega)
      | (apply G_len; eq_refl)
      | (apply G_box; eq_refl; eq_refl; intro _)
      | (apply G_make booc; eq_refl; eq_refl; eq_refl; omega; decide; intro _))
      rename_i b2 b9 b10
      refine GC_loopK [1, 2, 9, 10] (fun s : Nat × List Bool => [(11, nu s.1)]) (fun s => [.vec booc 1 4 (some ⟨b9, 0, none⟩) c.latches.length s.2, .vec booc 1 4 (some ⟨b10, 0, none⟩) c.inputs.length (List.replicate c.inputs.length false), .box b2 29 (ccells c h), .old w none_]) (fun s => s.1 ≤ c.latches.length ∧ s.2 = fillL (fun x : Tri => gt m (x.1 / 2)) c.latches false s.1) (fun s => c.latches.length - s.1) (0, List.replicate c.latches.length false) (by repeat first | exact Pick.nil | (apply Pick.cons; eq_refl)) (by repeat first | exact trivial | refine ⟨rfl, ?_⟩)
        (Wk.cons (.there .here) (Wk.consV .here (Dec.all _) List.length_replicate.symm (by rw [List.length_replicate]; unfold maxLen; omega) (by repeat first | exact Wk.nil | exact Wk.refl | (apply Wk.cons; (focus ((repeat first | exact Rem.here | apply Rem.there | apply Rem.skip); done))) | apply Wk.nilv | apply Wk.last | apply Wk.drop))) ⟨Nat.zero_le _, fillL_0.symm⟩ ?_
      rintro ⟨i, o⟩ ⟨hi, ho⟩
      dsimp only at hi ho ⊢
      have hol : o.length = c.latches.length := by rw [ho, fillL_len hi]
      rcases Nat.lt_or_ge i c.latches.length with hlt | hge
      · have g1 := (R.lat (gt_mem (l := c.latches) (i := (i : Int)) (by omega) (by omega))).1
        have hst := fillL_set (f := fun x : Tri => gt m (x.1 / 2)) (z := false) hlt
        rw [← ho] at hst
        unfold defR at g1
        repeat' (first
      | (apply GC_seqK; intro K hK)
      | (apply hK; clear hK K)
      | (apply GC_block)
      | (apply GC_region)
      | (apply GL_nil)
      | (apply thenG_normal)
      | (apply blockG_normal)
      | (apply GC_skip)
      | (apply GC_if_true; eq_refl)
      | (apply GL_on; eq_refl; eq_refl)
      | (apply G_pv; eq_refl; first | exact trivial | omega)
      | (apply G_field; eq_refl)
      | (apply G_fieldP; eq_refl)
      | (apply G_ld; eq_refl; (repeat first | exact In.here | apply In.there | apply In.skip); eq_refl)
      | (apply G_rd; eq_refl; (first | (apply Rd.own; (repeat first | exact In.here | apply In.there | apply In.skip); infer_instance) | (apply Rd.old; (repeat first | exact In.here | apply In.there | apply In.skip); assumption) | (apply Rd.oldR; (repeat first | exact In.here | apply In.there | apply In.skip); assumption) | exact Rd.nil | assumption); (case ih => infer_instance); omega; omega; eq_refl)
      | (apply G_cmpT; eq_refl; eq_refl; omega)
      | (apply G_len; eq_refl)
      | (apply G_ix; eq_refl; eq_refl; (first | (apply Rd.own; (repeat first | exact In.here | apply In.there | apply In.skip); infer_instance) | (apply Rd.old; (repeat first | exact In.here | apply In.there | apply In.skip); assumption) | (apply Rd.oldR; (repeat first | exact In.here | apply In.there | apply In.skip); assumption) | exact Rd.nil | assumption); (first | eq_refl | omega); omega; omega)
      | (apply G_stV; (first | exact wr_p | kernel_rfl); eq_refl; eq_refl; eq_refl; eq_refl; (repeat first | exact Upd.here | apply Upd.there | apply Upd.skip); infer_instance; infer_instance; eq_refl; omega; (try simp only [List.length_set, List.length_append, List.length_replicate]); omega))
        exact ⟨(i + 1, _), (by repeat first | exact trivial | refine ⟨rfl, ?_⟩), (by repeat first | exact Wk.nil | exact Wk.refl | (apply Wk.cons; (focus ((repeat first | exact Rem.here | apply Rem.there | apply Rem.skip); done))) | apply Wk.nilv | apply Wk.last | apply Wk.drop), ⟨hlt, hst⟩, by simp only; omega⟩
      obtain rfl : i = c.latches.length := by omega
      rw [fillL_all (Nat.le_refl _)] at ho
      repeat' (first
      | (apply GC_seqK; intro K hK)
      | (apply hK; clear hK K)
      | (clear hK K; apply hK; clear hK K)
      | (apply GC_block)
      | (apply GC_region)
      | (apply GL_nil)
      | (apply thenG_normal)
      | (apply thenG_exit)
      | (apply blockG_hit)
      | (apply GC_exit)
      | (apply GC_if_false; eq_refl)
      | (apply GL_on; eq_refl; eq_refl)
      | (apply G_pv; eq_refl; first | exact trivial | omega)
      | (apply G_field; eq_refl)
      | (apply G_ld; eq_refl; (repeat first | exact In.here | apply In.there | apply In.skip); eq_refl)
      | (apply G_cmpF; eq_refl; eq_refl; omega)
      | (apply G_len; eq_refl))
      refine GC_loopK [1, 2, 9, 10] (fun s : Nat × List Bool => [(12, nu s.1)]) (fun s => [.vec booc 1 4 (some ⟨b9, 0, none⟩) c.latches.length o, .vec booc 1 4 (some ⟨b10, 0, none⟩) c.inputs.length s.2, .box b2 29 (ccells c h), .old w none_]) (fun s => s.1 ≤ c.inputs.length ∧ s.2 = fillL (fun l : Int => gt m (l / 2)) c.inputs false s.1) (fun s => c.inputs.length - s.1) (0, List.replicate c.inputs.length false) (by repeat first | exact Pick.nil | (apply Pick.cons; eq_refl)) (by repeat first | exact trivial | refine ⟨rfl, ?_⟩) (by repeat first | exact Wk.nil | exact Wk.refl | (apply Wk.cons; (focus ((repeat first | exact Rem.here | apply Rem.there | apply Rem.skip); done))) | apply Wk.nilv | apply Wk.last | apply Wk.drop) ⟨Nat.zero_le _, fillL_0.symm⟩ ?_
      rintro ⟨i, o2⟩ ⟨hi2, ho2⟩
      dsimp only at hi2 ho2 ⊢
      have hol2 : o2.length = c.inputs.length := by rw [ho2, fillL_len hi2]
      rcases Nat.lt_or_ge i c.inputs.length with hlt | hge2
      · have g1 := R.inp (gt_mem (l := c.inputs) (i := (i : Int)) (by omega) (by omega))
        have hst := fillL_set (f := fun l : Int => gt m (l / 2)) (z := false) hlt
        rw [← ho2] at hst
        unfold defR at g1
        repeat' (first
      | (apply GC_seqK; intro K hK)
      | (apply hK; clear hK K)
      | (apply GC_block)
      | (apply GC_region)
      | (apply GL_nil)
      | (apply thenG_normal)
      | (apply blockG_normal)
      | (apply GC_skip)
      | (apply GC_if_true; eq_refl)
      | (apply GL_on; eq_refl; eq_refl)
      | (apply G_pv; eq_refl; first | exact trivial | omega)
      | (apply G_field; eq_refl)
      | (apply G_ld; eq_refl; (repeat first | exact In.here | apply In.there | apply In.skip); eq_refl)
      | (apply G_rd; eq_refl; (first | (apply Rd.own; (repeat first | exact In.here | apply In.there | apply In.skip); infer_instance) | (apply Rd.old; (repeat first | exact In.here | apply In.there | apply In.skip); assumption) | (apply Rd.oldR; (repeat first | exact In.here | apply In.there | apply In.skip); assumption) | exact Rd.nil | assumption); (case ih => infer_instance); omega; omega; eq_refl)
      | (apply G_cmpT; eq_refl; eq_refl; omega)
      | (apply G_len; eq_refl)
      | (apply G_ix; eq_refl; eq_refl; (first | (apply Rd.own; (repeat first | exact In.here | apply In.there | apply In.skip); infer_instance) | (apply Rd.old; (repeat first | exact In.here | apply In.there | apply In.skip); assumption) | (apply Rd.oldR; (repeat first | exact In.here | apply In.there | apply In.skip); assumption) | exact Rd.nil | assumption); (first | eq_refl | omega); omega; omega)
      | (apply G_stV; (first | exact wr_p | kernel_rfl); eq_refl; eq_refl; eq_refl; eq_refl; (repeat first | exact Upd.here | apply Upd.there | apply Upd.skip); infer_instance; infer_instance; eq_refl; omega; (try simp only [List.length_set, List.length_append, List.length_replicate]); omega))
        exact ⟨(i + 1, _), (by repeat first | exact trivial | refine ⟨rfl, ?_⟩), (by repeat first | exact Wk.nil | exact Wk.refl | (apply Wk.cons; (focus ((repeat first | exact Rem.here | apply Rem.there | apply Rem.skip); done))) | apply Wk.nilv | apply Wk.last | apply Wk.drop), ⟨hlt, hst⟩, by simp only; omega⟩
      obtain rfl : i = c.inputs.length := by omega
      rw [fillL_all (Nat.le_refl _)] at ho2
      repeat' (first
      | (apply GC_seqK; intro K hK)
      | (apply hK; clear hK K)
      | (clear hK K; apply hK; clear hK K)
      | (apply GC_region)
      | (apply GL_nil)
      | (apply thenG_normal)
      | (apply thenG_exit)
      | (apply blockG_hit)
      | (apply GC_ret)
      | (apply GC_exit)
      | (apply GC_if_false; eq_refl)
      | (apply retG3; eq_refl; eq_refl; eq_refl)
      | (apply GL_on; eq_refl; eq_refl)
      | (apply G_pv; eq_refl; first | exact trivial | omega)
      | (apply G_field; eq_refl)
      | (apply G_ld; eq_refl; (repeat first | exact In.here | apply In.there | apply In.skip); eq_refl)
      | (apply G_cmpF; eq_refl; eq_refl; omega)
      | (apply G_len; eq_refl))
      have q1 : (stM15 c m).length = c.latches.length := List.length_map _
      have q2 : (rwM15 c m).length = c.inputs.length := List.length_map _
      exact ⟨[.vec booc 1 4 (some ⟨b9, 0, none⟩) c.latches.length o, .vec booc 1 4 (some ⟨b10, 0, none⟩) c.inputs.length o2], (by repeat first | exact Wk.nil | exact Wk.refl | (apply Wk.cons; (focus ((repeat first | exact Rem.here | apply Rem.there | apply Rem.skip); done))) | apply Wk.nilv | apply Wk.last | apply Wk.drop), _, _, _, _, by rw [q1, q2], by rw [ho, ho2]; rfl⟩
    · have e0 := mdE_len he hl
      have e1 : sM c m = [] := if_neg (by rw [e0]; decide)
      have e2 : rM c m = [] := if_neg (by rw [e0]; decide)
      rw [e0, e1, e2]
      rw [he] at hck
      generalize (lookM c).1 = n0 at *
      repeat' (first
      | (apply G_call; eq_refl; eq_refl; (apply hck; (repeat first | exact In.here | apply In.there | apply In.skip)); rintro _ _ ⟨rfl, rfl⟩)
      | (apply GC_seqK; intro K hK)
      | (apply hK; clear hK K)
      | (apply GC_region)
      | (apply GL_nil)
      | (apply thenG_normal)
      | (apply thenG_ret)
      | (apply GC_ret)
      | (apply GC_skip)
      | (apply GC_if_true; eq_refl)
      | (apply GC_if_false; eq_refl)
      | (apply retG3; eq_refl; eq_refl; eq_refl)
      | (apply GL_on; eq_refl; eq_refl)
      | (apply G_pv; eq_refl; first | exact trivial | omega)
      | (apply G_field; eq_refl)
      | (apply G_ld; eq_refl; (repeat first | exact In.here | apply In.there | apply In.skip); eq_refl)
      | (apply G_ldW; eq_refl; (repeat first | exact In.here | apply In.there | apply In.skip); eq_refl)
      | (apply G_cmpT; eq_refl; eq_refl; omega)
      | (apply G_cmpF; eq_refl; eq_refl; omega)
      | (apply G_len; eq_refl)
      | (apply G_box; eq_refl; eq_refl; intro _))
      exact ⟨[.vec booc 1 4 none 0 [], .vec booc 1 4 none 0 []], (by repeat first | exact Wk.nil | exact Wk.refl | (apply Wk.cons; (focus ((repeat first | exact Rem.here | apply Rem.there | apply Rem.skip); done))) | apply Wk.nilv | apply Wk.last | apply Wk.drop), none, 0, none, 0, rfl, rfl⟩
  · have e0 := mdE_look (m := m) he
    have e1 : sM c m = [] := if_neg (by rw [e0]; exact he)
    have e2 : rM c m = [] := if_neg (by rw [e0]; exact he)
    rw [e0, e1, e2]
    generalize (lookM c).1 = n0 at *
    generalize (lookM c).2 = ε at *
    repeat' (first
      | (apply G_call; eq_refl; eq_refl; (apply hck; (repeat first | exact In.here | apply In.there | apply In.skip)); rintro _ _ ⟨rfl, rfl⟩)
      | (apply GC_seqK; intro K hK)
      | (apply hK; clear hK K)
      | (apply GC_region)
      | (apply GL_nil)
      | (apply thenG_normal)
      | (apply thenG_ret)
      | (apply GC_ret)
      | (apply GC_if_true; eq_refl)
      | (apply retG3; eq_refl; eq_refl; eq_refl)
      | (apply GL_on; eq_refl; eq_refl)
      | (apply G_pv; eq_refl; first | exact trivial | omega)
      | (apply G_ldW; eq_refl; (repeat first | exact In.here | apply In.there | apply In.skip); eq_refl)
      | (apply G_cmpT; eq_refl; eq_refl; omega)
      | (apply G_box; eq_refl; eq_refl; intro _))
    exact ⟨[.vec booc 1 4 none 0 [], .vec booc 1 4 none 0 []], (by repeat first | exact Wk.nil | exact Wk.refl | (apply Wk.cons; (focus ((repeat first | exact Rem.here | apply Rem.there | apply Rem.skip); done))) | apply Wk.nilv | apply Wk.last | apply Wk.drop), none, 0, none, 0, rfl, rfl⟩
end SC
end Go.Proofs.Yticndofcfacopaa
end
section
/- trestlelaw15: works. -/
set_option linter.unusedVariables false
set_option linter.unusedSimpArgs false
namespace Go.Proofs.Yticndofcfacopaa
namespace SC
open Go.Proofs
theorem cOne_ord : ordM cOne = [0] := ordM_eq cOne_all
theorem cOne_look2 : (lookM cOne).2 = 0 := by rw [cOne_look]
theorem cOne_gv : cnfGV cOne = 4 := by unfold cnfGV; rw [if_pos cOne_look2]; rfl
theorem cOne_gm : cnfGM cOne = [[-1], [-4, 2], [-4, 3], [4, -2, -3]] := by unfold cnfGM; rw [if_pos cOne_look2]; rfl
theorem cOne_val : valM cOne [] [true, true] = [false, true, true, true] := by unfold valM; rw [cOne_ord]; rfl
theorem cOne_step : stepE cOne [] [true, true] = 0 := stepE_ok cOne_look2 rfl rfl
theorem cOne_vals : valsM cOne [] [true, true] = [false, true, true, true] := by unfold valsM; rw [if_pos cOne_step, cOne_val]
theorem cOne_okay : cOne.Okay := ⟨by simp [cOne, Circ.lens], by simp [cOne], by simp [cOne], (by intro x hx; simp [cOne] at hx; subst hx; simp [TriFits, fit64, fits]), by simp [cOne]⟩
theorem cOne_fits : cOne.Fits := ⟨by simp [cOne], by simp [cOne], by simp [cOne], by simp [cOne], by simp [cOne], by simp [cOne], by simp [cOne], by simp [cOne], by simp [cOne], by simp [cOne], by simp [cOne]⟩
theorem cOne_in {w : World} {a b : Nat} (ha : Blk w a 3 [nu 2, nu 4]) (hb : Blk w b 57 [nu 6, nu 2, nu 4]) : CirIn w cOne (hOne a b) hNil := ⟨cOne_at rfl rfl ha hb, cOne_sane, cOne_okay, cOne_fits⟩
attribute [local irreducible] WC WL WX WS WO OX Does DoesU Enters CV Pure thenQ blockQ retQ Wants retQC GC GL GS GX RdB thenG blockG retG Rd At CVN CVM
set_option maxRecDepth 100000
set_option maxHeartbeats 800000 in
theorem works15_cv {w : World} : CVN Try.prog 19 [] w fun v N => N = [] ∧ v = .bool true := by
  have hG : ∀ Γ a b, In Γ (.box a 3 [nu 2, nu 4]) → In Γ (.box b 57 [nu 6, nu 2, nu 4]) → ∀ w', Mem w' Γ → CVN Try.prog 21 [.agg (ccells cOne (hOne a b)).toArray] w' fun v N => ∃ (h0 h1 h2 h3 : Hdl) (A : Option Addr) (k : Nat), v = .tuple #[.agg #[nu 4, .slice A 4 k], nu 0] ∧ N = [.vec encS 1 62 A k [(h0, [-1]), (h1, [-4, 2]), (h2, [-4, 3]), (h3, [4, -2, -3])], .vec icell 1 3 h3.1 h3.2 [4, -2, -3], .vec icell 1 3 h2.1 h2.2 [-4, 3], .vec icell 1 3 h1.1 h1.2 [-4, 2], .vec icell 1 3 h0.1 h0.2 [-1]] := fun Γ a b h1 h2 w' M => by
    refine (GatesP_cv (cOne_in (h1.box M) (h2.box M))).mono ?_
    rintro v N ⟨ps, A, k, rfl, hps, rfl⟩
    rw [cOne_gm] at hps
    rw [cOne_gv, cOne_look2]
    match ps, hps with
    | [(q0, l0), (q1, l1), (q2, l2), (q3, l3)], hps =>
      simp only [List.map_cons, List.map_nil, List.cons.injEq, and_true] at hps
      obtain ⟨rfl, rfl, rfl, rfl⟩ := hps
      exact ⟨q0, q1, q2, q3, A, k, rfl, rfl⟩
    | [], hps => simp at hps
    | [_], hps => simp at hps
    | [_, _], hps => simp at hps
    | [_, _, _], hps => simp at hps
    | _ :: _ :: _ :: _ :: _ :: _, hps => simp at hps
  have hM : ∀ Γ a b x, In Γ (.box a 3 [nu 2, nu 4]) → In Γ (.box b 57 [nu 6, nu 2, nu 4]) → In Γ (.box x 4 [.bool true, .bool true]) → ∀ w', Mem w' Γ → CVN Try.prog 13 [.agg (ccells cOne (hOne a b)).toArray, .slice none 0 0, .slice (some ⟨x, 0, none⟩) 2 2] w' fun v N => ∃ (A : Option Addr) (k : Nat), v = .tuple #[.slice A 4 k, nu 0] ∧ N = [.vec booc 1 4 A k [false, true, true, true]] := fun Γ a b x h1 h2 h3 w' M => by
    have := ModelP_cv (k2 := 0) (k3 := 2) (s := []) (r := [true, true]) (S := none) (T := some ⟨x, 0, none⟩) (cOne_in (h1.box M) (h2.box M)) RowA.emp (RowA.blk (l := [true, true]) (fun _ => rfl) (h3.box M))
    refine this.mono ?_
    rintro v N ⟨A, k, rfl, rfl⟩
    rw [cOne_vals, cOne_step]
    exact ⟨A, k, rfl, rfl⟩
  refine CVN.enter 71 [0] Try.func19 rfl rfl rfl (by decide) rfl ?_
  repeat' (first
      | (apply G_cmpT; eq_refl; eq_refl; (exact rfl))
      | (apply G_ix; eq_refl; eq_refl; (first | (apply Rd.own; (repeat first | exact In.here | apply In.there | apply In.skip); infer_instance) | (apply Rd.old; (repeat first | exact In.here | apply In.there | apply In.skip); assumption) | (apply Rd.oldR; (repeat first | exact In.here | apply In.there | apply In.skip); assumption) | exact Rd.nil | assumption); eq_refl; (focus simp); (first | (exact (show (0 : Int) < ((3 : Nat) : Int) by decide)) | (exact (show (3 : Int) < ((4 : Nat) : Int) by decide)) | (exact (show (0 : Int) < ((4 : Nat) : Int) by decide))))
      | (apply G_rd; eq_refl; (first | (apply Rd.own; (repeat first | exact In.here | apply In.there | apply In.skip); infer_instance) | (apply Rd.old; (repeat first | exact In.here | apply In.there | apply In.skip); assumption) | (apply Rd.oldR; (repeat first | exact In.here | apply In.there | apply In.skip); assumption) | exact Rd.nil | assumption); (case ih => infer_instance); (focus simp); (first | (exact (show (0 : Int) < ((3 : Nat) : Int) by decide)) | (exact (show (3 : Int) < ((4 : Nat) : Int) by decide)) | (exact (show (0 : Int) < ((4 : Nat) : Int) by decide))); eq_refl)
      | (apply G_call; eq_refl; eq_refl; (apply hG; (repeat first | exact In.here | apply In.there | apply In.skip); (repeat first | exact In.here | apply In.there | apply In.skip)); rintro _ _ ⟨h0, h1, h2, h3, A, k, rfl, rfl⟩)
      | (apply G_call; eq_refl; eq_refl; (apply hM; (repeat first | exact In.here | apply In.there | apply In.skip); (repeat first | exact In.here | apply In.there | apply In.skip); (repeat first | exact In.here | apply In.there | apply In.skip)); rintro _ _ ⟨A2, k4, rfl, rfl⟩)
      | (apply GC_seqK; intro K hK)
      | (apply hK; clear hK K)
      | (apply GC_region)
      | (apply GL_nil)
      | (apply thenG_normal)
      | (apply GC_ret)
      | (apply retG1; eq_refl)
      | (apply GL_on; eq_refl; eq_refl)
      | (apply G_pv; eq_refl; first | exact trivial | omega)
      | (apply G_field; eq_refl)
      | (apply G_ld; eq_refl; (repeat first | exact In.here | apply In.there | apply In.skip); eq_refl)
      | (apply G_ldW; eq_refl; (repeat first | exact In.here | apply In.there | apply In.skip); eq_refl)
      | (apply G_len; eq_refl)
      | (apply G_alloc; eq_refl; intro _)
      | (apply G_stW; (first | exact wr_p | kernel_rfl); eq_refl; eq_refl; eq_refl; eq_refl; (repeat first | exact Upd.here | apply Upd.there | apply Upd.skip); eq_refl)
      | (apply GX_pure; apply build57_0_1_2 <;> eq_refl)
      | (apply GX_pure; apply build29_0_1_8 <;> eq_refl)
      | (apply G_new (fun b => .slice (some ⟨b, 0, none⟩) 2 2); eq_refl; (intro _; apply buildS22_2 <;> eq_refl); intro _)
      | (apply G_new (fun b => .slice (some ⟨b, 0, none⟩) 1 1); eq_refl; (intro _; apply buildS25_1 <;> eq_refl); intro _)
      | (apply G_new (fun b => .slice (some ⟨b, 0, none⟩) 2 2); eq_refl; (intro _; apply buildS30_2 <;> eq_refl); intro _))
  trace_state
  exact ⟨[], (by repeat first | exact Wk.nil | exact Wk.refl | (apply Wk.cons; (focus ((repeat first | exact Rem.here | apply Rem.there | apply Rem.skip); done))) | apply Wk.nilv | apply Wk.last | apply Wk.drop), rfl, rfl⟩
end SC
end Go.Proofs.Yticndofcfacopaa
end
section
/- trestlelaw15: EncodeModels: the walk. -/
set_option linter.unusedVariables false
set_option linter.unusedSimpArgs false
namespace Go.Proofs.Yticndofcfacopaa
namespace SC
open Go.Proofs
attribute [local irreducible] WC WL WX WS WO OX Does DoesU Enters CV Pure thenQ blockQ retQ Wants retQC GC GL GS GX RdB thenG blockG retG Rd At gt CVN CVM
attribute [local irreducible] lentX
set_option maxRecDepth 100000
set_option maxHeartbeats 1600000 in
theorem encodeModels_cv {w : World} {c : Circ} {h js : Hd} {S T : Option Addr} {k k2 : Nat} {s r : List Bool} (H : CirGot w c h js) (hS : RowA w booc 1 S s) (hT : RowA w booc 1 T r) :
    CVN Try.prog 3 [.agg (ccells c h).toArray, .slice S s.length k, .slice T r.length k2] w fun v N => N = [] ∧ v = .bool true := by
  have hL : ∀ Γ, In Γ (.old w none_) → ∀ w', Mem w' Γ → CVN Try.prog 12 [.agg (ccells c h).toArray] w' (LendR c) := fun Γ hi w' M => LendG (H.at_.chg (hi.old M)) H.fits1 H.nils
  have hM : ∀ Γ base h' js', In Γ (.any (lentX base c h' js')) → In Γ (.old w none_) → ∀ w', Mem w' Γ → CVN Try.prog 13 [.agg (ccells c h').toArray, .slice S s.length k, .slice T r.length k2] w' (ValsR c s r) := fun Γ base h' js' hi ho w' M => ModelP_cv (In.lent H.toCirIn hi M) (hS.chg (ho.old M)) (hT.chg (ho.old M))
  have hM2 : ∀ Γ, In Γ (.old w none_) → ∀ w', Mem w' Γ → CVN Try.prog 14 [.agg (ccells c h).toArray, .slice S s.length k, .slice T r.length k2] w' (ValsR c s r) := fun Γ ho w' M => ModelRef_cv (H.toCirIn.chg (ho.old M)) (hS.chg (ho.old M)) (hT.chg (ho.old M))
  have hs : ∀ Γ base h' js', In Γ (.any (lentX base c h' js')) → In Γ (.old w none_) → ∀ w', Mem w' Γ → CVN Try.prog 16 [.agg (ccells c h').toArray, .slice S s.length k] w' (StepER (sM c s) (rM c s) (mdE c s)) := fun Γ base h' js' hi ho w' M => StepP_cv (In.lent H.toCirIn hi M) (hS.chg (ho.old M))
  have hs2 : ∀ Γ, In Γ (.old w none_) → ∀ w', Mem w' Γ → CVN Try.prog 17 [.agg (ccells c h).toArray, .slice S s.length k] w' (StepER (sM c s) (rM c s) (mdE c s)) := fun Γ ho w' M => StepRef_cv (H.toCirIn.chg (ho.old M)) (hS.chg (ho.old M))
  have ht : ∀ Γ base h' js' A k' (m : List Bool), In Γ (.any (lentX base c h' js')) → In Γ (.vec booc 1 4 A k' m) → ∀ w', Mem w' Γ → CVN Try.prog 16 [.agg (ccells c h').toArray, .slice A m.length k'] w' (StepER (sM c m) (rM c m) (mdE c m)) := fun Γ base h' js' A k' m hi hv w' M => StepP_cv (In.lent H.toCirIn hi M) (hv.row M)
  have ht2 : ∀ Γ A k' (m : List Bool), In Γ (.old w none_) → In Γ (.vec booc 1 4 A k' m) → ∀ w', Mem w' Γ → CVN Try.prog 17 [.agg (ccells c h).toArray, .slice A m.length k'] w' (StepER (sM c m) (rM c m) (mdE c m)) := fun Γ A k' m ho hv w' M => StepRef_cv (H.toCirIn.chg (ho.old M)) (hv.row M)
  have hKp : ∀ Γ base h' js', In Γ (.any (lentX base c h' js')) → In Γ (.old w none_) → ∀ w', Mem w' Γ → CVN Try.prog 18 [.agg (ccells c h').toArray, .agg (ccells c h).toArray] w' _ := fun Γ base h' js' hi ho w' M => KeptG H hi ho M
  have hB : ∀ Γ A B k' k4 (l : List Bool), In Γ (.vec booc 1 4 A k' l) → In Γ (.vec booc 1 4 B k4 l) → ∀ w', Mem w' Γ → CVN Try.prog 15 [.slice A l.length k', .slice B l.length k4] w' fun v N => N = [] ∧ v = .bool true := fun Γ A B k' k4 l ha hb w' M => (sameBools_cv (ha.row M) (hb.row M) (vec_len (ha.ok M)) (vec_len (ha.ok M))).mono fun v N ⟨e1, e2⟩ => ⟨e1, by rw [e2, decide_eq_true rfl]⟩
  have hW : ∀ w', CVN Try.prog 19 [] w' _ := fun w' => works15_cv
  unfold ValsR at hM hM2
  unfold StepER at hs hs2 ht ht2
  refine CVN.enter 113 [6] Try.func3 rfl rfl rfl (by decide) rfl ?_
  generalize valsM c s r = V at *
  generalize stepE c s r = ε at *
  repeat' (first
      | (apply G_call; eq_refl; eq_refl; (apply hL; (repeat first | exact In.here | apply In.there | apply In.skip)); rintro _ _ ⟨base, h', js', rfl, rfl⟩)
      | (apply G_call; eq_refl; eq_refl; (apply hM; (repeat first | exact In.here | apply In.there | apply In.skip); (repeat first | exact In.here | apply In.there | apply In.skip)); rintro _ _ ⟨A1, k1, rfl, rfl⟩)
      | (apply G_call; eq_refl; eq_refl; (apply hM2; (repeat first | exact In.here | apply In.there | apply In.skip)); rintro _ _ ⟨A2, k3, rfl, rfl⟩)
      | (apply G_call; eq_refl; eq_refl; (apply hs; (repeat first | exact In.here | apply In.there | apply In.skip); (repeat first | exact In.here | apply In.there | apply In.skip)); rintro _ _ ⟨A3, k5, A4, k6, rfl, rfl⟩)
      | (apply G_call; eq_refl; eq_refl; (apply hs2; (repeat first | exact In.here | apply In.there | apply In.skip)); rintro _ _ ⟨A5, k7, A6, k8, rfl, rfl⟩)
      | (apply G_call; eq_refl; eq_refl; (apply ht; (repeat first | exact In.here | apply In.there | apply In.skip); (repeat first | exact In.here | apply In.there | apply In.skip)); rintro _ _ ⟨A7, k9, A8, k10, rfl, rfl⟩)
      | (apply G_call; eq_refl; eq_refl; (apply ht2; (repeat first | exact In.here | apply In.there | apply In.skip); (repeat first | exact In.here | apply In.there | apply In.skip)); rintro _ _ ⟨A9, k11, A10, k12, rfl, rfl⟩)
      | (apply G_call; eq_refl; eq_refl; (apply hB; (repeat first | exact In.here | apply In.there | apply In.skip); (repeat first | exact In.here | apply In.there | apply In.skip)); rintro _ _ ⟨rfl, rfl⟩)
      | (apply G_call; eq_refl; eq_refl; (apply hKp; (repeat first | exact In.here | apply In.there | apply In.skip); (repeat first | exact In.here | apply In.there | apply In.skip)); rintro _ _ ⟨rfl, rfl⟩)
      | (apply G_call; eq_refl; eq_refl; (exact fun w' _ => hW w'); rintro _ _ ⟨rfl, rfl⟩)
      | (apply GC_seqK; intro K hK)
      | (apply hK; clear hK K)
      | (apply GC_region)
      | (apply GL_nil)
      | (apply thenG_normal)
      | (apply GC_ret)
      | (apply GC_skip)
      | (apply GC_if_false; eq_refl)
      | (apply retG1; eq_refl)
      | (apply GL_on; eq_refl; eq_refl)
      | (apply G_pv; eq_refl; first | exact trivial | omega)
      | (apply G_ldW; eq_refl; (repeat first | exact In.here | apply In.there | apply In.skip); eq_refl)
      | (apply G_cmpT; eq_refl; eq_refl; omega)
      | (apply G_cmpF; eq_refl; eq_refl; omega)
      | (apply G_alloc; eq_refl; intro _)
      | (apply G_box; eq_refl; eq_refl; intro _)
      | (apply G_stW; (first | exact wr_p | kernel_rfl); eq_refl; eq_refl; eq_refl; eq_refl; (repeat first | exact Upd.here | apply Upd.there | apply Upd.skip); eq_refl))
  exact ⟨[], (by repeat first | exact Wk.nil | exact Wk.refl | (apply Wk.cons; (focus ((repeat first | exact Rem.here | apply Rem.there | apply Rem.skip); done))) | apply Wk.nilv | apply Wk.last | apply Wk.drop), rfl, rfl⟩
end SC
end Go.Proofs.Yticndofcfacopaa
end
end

/- Texts of this seat, one behind the other: S8 S9 S10 S11 S12 S13 L10 S14 S15 S16. -/
import Derived.Test.YtkndegjodnciaaaT4
import Derived.ChangeArms
section
/- sim: ready, step, Values, Next, Holds, Starts. -/
set_option linter.unusedVariables false
set_option linter.unusedSimpArgs false
namespace Go.Proofs.Ytkndegjodnciaaa
namespace SC
open Go.Proofs
/-- What ready answers. -/
def ReadyR (c : Circ) (h : Hd) (v : Value) (N : Mm) : Prop :=
  ((lookM c).2 ≠ 0 ∧ v = .tuple #[.pointer none, nu (lookM c).2] ∧ N = []) ∨ ((lookM c).2 = 0 ∧ ∃ p B k, v = .tuple #[pt p, nu 0] ∧ N = [.box p 163 (rcells c h B k), .vec icell 1 3 B k (ordM c)])
def StepR (c : Circ) (h : Hd) (s r : List Bool) (v : Value) (N : Mm) : Prop :=
  (stepE c s r ≠ 0 ∧ v = .tuple #[.pointer none, .slice none 0 0, nu (stepE c s r)] ∧ N = []) ∨
  (stepE c s r = 0 ∧ ∃ p B k A k', v = .tuple #[pt p, .slice A (valM c s r).length k', nu 0] ∧ N = [.vec booc 1 4 A k' (valM c s r), .box p 163 (rcells c h B k), .vec icell 1 3 B k (ordM c)])
attribute [local irreducible] WC WL WX WS WO OX Does DoesU Enters CV Pure thenQ blockQ retQ Wants retQC GC GL GS GX RdB thenG blockG retG Rd At gt CVN CVM
set_option maxRecDepth 100000
theorem ready_cv {w : World} {c : Circ} {h js : Hd} (H : CirIn w c h js) : CVN Try.prog 107 [.agg (ccells c h).toArray] w (ReadyR c h) := by
  have hord : ∀ Γ, In Γ (.old w none_) → ∀ w', Mem w' Γ → CVN Try.prog 26 [.agg (ccells c h).toArray] w' (OrdR c) := fun Γ hi w' M => have H' := H.chg (hi.old M); OrderG H'.at_ H'.sane
  refine CVN.enter 18 [2, 3] Try.func107 rfl rfl rfl (by decide) rfl ?_
  repeat' (first
      | (apply G_call; eq_refl; eq_refl; (apply hord; (repeat first | exact In.here | apply In.there | apply In.skip)); rintro _ _ (⟨he, rfl, rfl⟩ | ⟨he, A1, k1, rfl, rfl⟩))
      | (apply GC_seqK; intro K hK)
      | (apply hK; clear hK K)
      | (apply GC_region)
      | (apply GL_nil)
      | (apply thenG_normal)
      | (apply thenG_ret)
      | (apply GC_ret)
      | (apply GC_skip)
      | (apply GC_if_true; eq_refl)
      | (apply GC_if_false; eq_refl)
      | (apply retG2; eq_refl; eq_refl)
      | (apply GL_on; eq_refl; eq_refl)
      | (apply G_pv; eq_refl; first | exact trivial | omega)
      | (apply G_ldW; eq_refl; (repeat first | exact In.here | apply In.there | apply In.skip); eq_refl)
      | (apply G_cmpT; eq_refl; eq_refl; omega)
      | (apply G_cmpF; eq_refl; eq_refl; omega)
      | (apply G_box; eq_refl; eq_refl; intro _)
      | (apply GX_pure; apply build163_0_1 <;> eq_refl))
  · exact ⟨[], (by repeat first | exact Wk.nil | exact Wk.refl | (apply Wk.cons; (focus ((repeat first | exact Rem.here | apply Rem.there | apply Rem.skip); done))) | apply Wk.nilv | apply Wk.last | apply Wk.drop), .inl ⟨he, rfl, rfl⟩⟩
  · exact ⟨[.box _ 163 (rcells c h A1 k1), _], (by repeat first | exact Wk.nil | exact Wk.refl | (apply Wk.cons; (focus ((repeat first | exact Rem.here | apply Rem.there | apply Rem.skip); done))) | apply Wk.nilv | apply Wk.last | apply Wk.drop), .inr ⟨he, _, _, _, rfl, rfl⟩⟩
section
variable {w : World} {c : Circ} {h js : Hd} {S T : Option Addr} {k2 k3 : Nat} {s r : List Bool} (H : CirIn w c h js) (hS : RowA w booc 1 S s) (hT : RowA w booc 1 T r)
include H hS hT
theorem step_cv : CVN Try.prog 113 [.agg (ccells c h).toArray, .slice S s.length k2, .slice T r.length k3] w (StepR c h s r) := by
  have hrd : ∀ Γ, In Γ (.old w none_) → ∀ w', Mem w' Γ → CVN Try.prog 107 [.agg (ccells c h).toArray] w' (ReadyR c h) := fun Γ hi w' M => ready_cv (H.chg (hi.old M))
  have hvl : (lookM c).2 = 0 → s.length = c.latches.length → r.length = c.inputs.length → ∀ Γ p B k, In Γ (.old w none_) → In Γ (.box p 163 (rcells c h B k)) → In Γ (.vec icell 1 3 B k (ordM c)) → ∀ w', Mem w' Γ → CVN Try.prog 108 [pt p, .slice S s.length k2, .slice T r.length k3] w' _ := fun he h2 h3 Γ p B k hi hb hv w' M => by
    have H' := H.chg (hi.old M)
    exact values_cv (right_of H'.at_ H'.sane he) (hb.box M) H'.at_ (hv.row M) (hS.chg (hi.old M)) (hT.chg (hi.old M)) h2 h3
  refine CVN.enter 38 [6, 7, 8] Try.func113 rfl rfl rfl (by decide) rfl ?_
  repeat' (first
      | (apply G_call; eq_refl; eq_refl; (apply hrd; (repeat first | exact In.here | apply In.there | apply In.skip)); rintro _ _ (⟨he, rfl, rfl⟩ | ⟨he, p1, A1, k1, rfl, rfl⟩))
      | (apply G_call; eq_refl; eq_refl; (apply hvl he; omega; omega; (repeat first | exact In.here | apply In.there | apply In.skip); (repeat first | exact In.here | apply In.there | apply In.skip); (repeat first | exact In.here | apply In.there | apply In.skip)); rintro _ _ ⟨A2, k4, rfl, rfl⟩)
      | (apply GC_seqK; intro K hK)
      | (apply hK; clear hK K)
      | (apply GC_region)
      | (apply GL_nil)
      | (apply thenG_normal)
      | (apply thenG_ret)
      | (apply GC_ret)
      | (apply GC_skip)
      | (apply GC_if_true; eq_refl)
      | (apply GC_if_false; eq_refl)
      | (apply retG3; eq_refl; eq_refl; eq_refl)
      | (apply GL_on; eq_refl; eq_refl)
      | (apply GL_off; eq_refl; eq_refl)
      | (apply G_pv; eq_refl; first | exact trivial | omega)
      | (apply G_field; eq_refl)
      | (apply G_ld; eq_refl; (repeat first | exact In.here | apply In.there | apply In.skip); eq_refl)
      | (apply G_ldW; eq_refl; (repeat first | exact In.here | apply In.there | apply In.skip); eq_refl)
      | (apply G_cmpT; eq_refl; eq_refl; omega)
      | (apply G_cmpF; eq_refl; eq_refl; omega)
      | (apply G_cmp; eq_refl; eq_refl; all_goals intro _)
      | (apply G_len; eq_refl)
      | (apply G_box; eq_refl; eq_refl; intro _))
  all_goals first
    | exact ⟨[], (by repeat first | exact Wk.nil | exact Wk.refl | (apply Wk.cons; (focus ((repeat first | exact Rem.here | apply Rem.there | apply Rem.skip); done))) | apply Wk.nilv | apply Wk.last | apply Wk.drop), .inl ⟨by rw [stepE_look (by omega)]; assumption, by rw [stepE_look (by omega)], rfl⟩⟩
    | exact ⟨[], (by repeat first | exact Wk.nil | exact Wk.refl | (apply Wk.cons; (focus ((repeat first | exact Rem.here | apply Rem.there | apply Rem.skip); done))) | apply Wk.nilv | apply Wk.last | apply Wk.drop), .inl ⟨by rw [stepE_len (by omega) (by omega)]; decide, by rw [stepE_len (by omega) (by omega)], rfl⟩⟩
    | exact ⟨[_, _, _], (by repeat first | exact Wk.nil | exact Wk.refl | (apply Wk.cons; (focus ((repeat first | exact Rem.here | apply Rem.there | apply Rem.skip); done))) | apply Wk.nilv | apply Wk.last | apply Wk.drop), .inr ⟨stepE_ok (by omega) (by omega) (by omega), _, _, _, _, _, rfl, rfl⟩⟩
theorem ValuesP_cv : CVN Try.prog 53 [.agg (ccells c h).toArray, .slice S s.length k2, .slice T r.length k3] w (ValsR c s r) := by
  have hst : ∀ Γ, In Γ (.old w none_) → ∀ w', Mem w' Γ → CVN Try.prog 113 [.agg (ccells c h).toArray, .slice S s.length k2, .slice T r.length k3] w' (StepR c h s r) := fun Γ hi w' M => step_cv (H.chg (hi.old M)) (hS.chg (hi.old M)) (hT.chg (hi.old M))
  refine CVN.enter 21 [6, 7] Try.func53 rfl rfl rfl (by decide) rfl ?_
  repeat' (first
      | (apply G_call; eq_refl; eq_refl; (apply hst; (repeat first | exact In.here | apply In.there | apply In.skip)); rintro _ _ (⟨he, rfl, rfl⟩ | ⟨he, p1, B1, k1, A1, k4, rfl, rfl⟩))
      | (apply GC_seqK; intro K hK)
      | (apply hK; clear hK K)
      | (apply GC_region)
      | (apply GL_nil)
      | (apply thenG_normal)
      | (apply GC_ret)
      | (apply retG2; eq_refl; eq_refl)
      | (apply GL_on; eq_refl; eq_refl)
      | (apply G_pv; eq_refl; first | exact trivial | omega)
      | (apply G_ldW; eq_refl; (repeat first | exact In.here | apply In.there | apply In.skip); eq_refl)
      | (apply G_box; eq_refl; eq_refl; intro _))
  · have e1 : valsM c s r = [] := if_neg he
    unfold ValsR
    rw [e1]
    exact ⟨[.vec booc 1 4 none 0 []], (by repeat first | exact Wk.nil | exact Wk.refl | (apply Wk.cons; (focus ((repeat first | exact Rem.here | apply Rem.there | apply Rem.skip); done))) | apply Wk.nilv | apply Wk.last | apply Wk.drop), none, 0, rfl, rfl⟩
  · have e1 : valsM c s r = valM c s r := if_pos he
    unfold ValsR
    rw [e1, he]
    exact ⟨[_], (by repeat first | exact Wk.nil | exact Wk.refl | (apply Wk.cons; (focus ((repeat first | exact Rem.here | apply Rem.there | apply Rem.skip); done))) | apply Wk.nilv | apply Wk.last | apply Wk.drop), _, _, rfl, rfl⟩
theorem NextP_cv : CVN Try.prog 49 [.agg (ccells c h).toArray, .slice S s.length k2, .slice T r.length k3] w (NextR c s r) := by
  have hst : ∀ Γ, In Γ (.old w none_) → ∀ w', Mem w' Γ → CVN Try.prog 113 [.agg (ccells c h).toArray, .slice S s.length k2, .slice T r.length k3] w' (StepR c h s r) := fun Γ hi w' M => step_cv (H.chg (hi.old M)) (hS.chg (hi.old M)) (hT.chg (hi.old M))
  have hnx : stepE c s r = 0 → ∀ Γ p B k A k', In Γ (.old w none_) → In Γ (.box p 163 (rcells c h B k)) → In Γ (.vec booc 1 4 A k' (valM c s r)) → ∀ w', Mem w' Γ → CVN Try.prog 110 [pt p, .slice A (valM c s r).length k'] w' _ := fun he Γ p B k A k' hi hb hv w' M => by
    have R := right_of H.at_ H.sane (stepE_zero he).1
    exact next_cv (hb.box M) (H.at_.chg (hi.old M)) (hv.row M) R.nLat fun x hx => (R.lat hx).2.1.has R.m1 (valM_len c s r)
  refine CVN.enter 25 [6, 7] Try.func49 rfl rfl rfl (by decide) rfl ?_
  repeat' (first
      | (apply G_call; eq_refl; eq_refl; (apply hst; (repeat first | exact In.here | apply In.there | apply In.skip)); rintro _ _ (⟨he, rfl, rfl⟩ | ⟨he, p1, B1, k1, A1, k4, rfl, rfl⟩))
      | (apply G_call; eq_refl; eq_refl; (apply hnx he; (repeat first | exact In.here | apply In.there | apply In.skip); (repeat first | exact In.here | apply In.there | apply In.skip); (repeat first | exact In.here | apply In.there | apply In.skip)); rintro _ _ ⟨A2, k5, rfl, rfl⟩)
      | (apply GC_seqK; intro K hK)
      | (apply hK; clear hK K)
      | (apply GC_region)
      | (apply GL_nil)
      | (apply thenG_normal)
      | (apply thenG_ret)
      | (apply GC_ret)
      | (apply GC_skip)
      | (apply GC_if_true; eq_refl)
      | (apply GC_if_false; eq_refl)
      | (apply retG2; eq_refl; eq_refl)
      | (apply GL_on; eq_refl; eq_refl)
      | (apply G_pv; eq_refl; first | exact trivial | omega)
      | (apply G_ldW; eq_refl; (repeat first | exact In.here | apply In.there | apply In.skip); eq_refl)
      | (apply G_cmpT; eq_refl; eq_refl; omega)
      | (apply G_cmpF; eq_refl; eq_refl; omega)
      | (apply G_box; eq_refl; eq_refl; intro _))
  · have e1 : nextM c s r = [] := if_neg he
    unfold NextR
    rw [e1]
    exact ⟨[.vec booc 1 4 none 0 []], (by repeat first | exact Wk.nil | exact Wk.refl | (apply Wk.cons; (focus ((repeat first | exact Rem.here | apply Rem.there | apply Rem.skip); done))) | apply Wk.nilv | apply Wk.last | apply Wk.drop), none, 0, rfl, rfl⟩
  · have e1 : nextM c s r = nxtM c (valM c s r) := if_pos he
    unfold NextR
    rw [e1, he]
    exact ⟨[_], (by repeat first | exact Wk.nil | exact Wk.refl | (apply Wk.cons; (focus ((repeat first | exact Rem.here | apply Rem.there | apply Rem.skip); done))) | apply Wk.nilv | apply Wk.last | apply Wk.drop), _, _, rfl, rfl⟩
theorem HoldsP_cv : CVN Try.prog 56 [.agg (ccells c h).toArray, .slice S s.length k2, .slice T r.length k3] w fun v N => v = .tuple #[.bool (holdsM c s r), nu (stepE c s r)] ∧ N = [] := by
  have hst : ∀ Γ, In Γ (.old w none_) → ∀ w', Mem w' Γ → CVN Try.prog 113 [.agg (ccells c h).toArray, .slice S s.length k2, .slice T r.length k3] w' (StepR c h s r) := fun Γ hi w' M => step_cv (H.chg (hi.old M)) (hS.chg (hi.old M)) (hT.chg (hi.old M))
  have hnx : stepE c s r = 0 → ∀ Γ p B k A k', In Γ (.old w none_) → In Γ (.box p 163 (rcells c h B k)) → In Γ (.vec booc 1 4 A k' (valM c s r)) → ∀ w', Mem w' Γ → CVN Try.prog 118 [pt p, .slice A (valM c s r).length k'] w' _ := fun he Γ p B k A k' hi hb hv w' M => by
    have R := right_of H.at_ H.sane (stepE_zero he).1
    exact holds_cv (hb.box M) (H.at_.chg (hi.old M)) (hv.row M) R.nCon fun l hl => (R.con hl).has R.m1 (valM_len c s r)
  refine CVN.enter 27 [6, 7] Try.func56 rfl rfl rfl (by decide) rfl ?_
  repeat' (first
      | (apply G_call; eq_refl; eq_refl; (apply hst; (repeat first | exact In.here | apply In.there | apply In.skip)); rintro _ _ (⟨he, rfl, rfl⟩ | ⟨he, p1, B1, k1, A1, k4, rfl, rfl⟩))
      | (apply G_call; eq_refl; eq_refl; (apply hnx he; (repeat first | exact In.here | apply In.there | apply In.skip); (repeat first | exact In.here | apply In.there | apply In.skip); (repeat first | exact In.here | apply In.there | apply In.skip)); rintro _ _ ⟨rfl, rfl⟩)
      | (apply GC_seqK; intro K hK)
      | (apply hK; clear hK K)
      | (apply GC_region)
      | (apply GL_nil)
      | (apply thenG_normal)
      | (apply GC_ret)
      | (apply retG2; eq_refl; eq_refl)
      | (apply GL_on; eq_refl; eq_refl)
      | (apply GL_off; eq_refl; eq_refl)
      | (apply G_pv; eq_refl; first | exact trivial | omega)
      | (apply G_ldW; eq_refl; (repeat first | exact In.here | apply In.there | apply In.skip); eq_refl)
      | (apply G_cmpT; eq_refl; eq_refl; omega)
      | (apply G_cmpF; eq_refl; eq_refl; omega)
      | (apply G_box; eq_refl; eq_refl; intro _))
  · have e1 : holdsM c s r = false := if_neg he
    rw [e1]
    exact ⟨[], (by repeat first | exact Wk.nil | exact Wk.refl | (apply Wk.cons; (focus ((repeat first | exact Rem.here | apply Rem.there | apply Rem.skip); done))) | apply Wk.nilv | apply Wk.last | apply Wk.drop), rfl, rfl⟩
  · have e1 : holdsM c s r = c.constraints.all (lv (valM c s r)) := if_pos he
    rw [e1, he]
    exact ⟨[], (by repeat first | exact Wk.nil | exact Wk.refl | (apply Wk.cons; (focus ((repeat first | exact Rem.here | apply Rem.there | apply Rem.skip); done))) | apply Wk.nilv | apply Wk.last | apply Wk.drop), rfl, rfl⟩
end
end SC
end Go.Proofs.Ytkndegjodnciaaa
end
section
/- What is so in a step. trestleref07: moment. -/
set_option linter.unusedVariables false
set_option linter.unusedSimpArgs false
namespace Go.Proofs.Ytkndegjodnciaaa
namespace SC
open Go.Proofs
structure Mom where
  state : List Bool
  holds : Bool
  bads : List Int
  fair : List (Int × Int)
instance : Inhabited Mom := ⟨⟨[], false, [], []⟩⟩
abbrev HMom := (Option Addr × Nat) × (Option Addr × Nat) × (Option Addr × Nat)
def encM (p : HMom × Mom) : List Value := [.slice p.1.1.1 p.2.state.length p.1.1.2, .bool p.2.holds, .slice p.1.2.1.1 p.2.bads.length p.1.2.1.2, .slice p.1.2.2.1 p.2.fair.length p.1.2.2.2]
def momE (p : HMom × Mom) : Mm := [.vec booc 1 4 p.1.1.1 p.1.1.2 p.2.state, .vec icell 1 3 p.1.2.1.1 p.1.2.1.2 p.2.bads, .vec spotc 2 138 p.1.2.2.1 p.1.2.2.2 p.2.fair]
instance : Enc encM 4 := ⟨fun _ => rfl, fun a u h => by simp [encM] at h; rcases h with rfl | rfl | rfl | rfl <;> rfl, by decide⟩
def selI (v : List Bool) (ls : List Int) (i : Nat) : List Int := ((List.range i).filter fun (k : Nat) => lv v (gt ls (k : Int))).map fun (k : Nat) => (k : Int)
def selF (at_ : Int) (v : List Bool) (ls : List Int) (i : Nat) : List (Int × Int) := ((List.range i).filter fun (k : Nat) => lv v (gt ls (k : Int))).map fun (k : Nat) => (at_, (k : Int))
def fairJ (v : List Bool) (js : List (List Int)) (i : Nat) : List (Int × Int) := (List.range i).flatMap fun (k : Nat) => selF (k : Int) v (js.getD k []) (js.getD k []).length
def momM (c : Circ) (s v : List Bool) : Mom := ⟨s, c.constraints.all (lv v), selI v c.bads c.bads.length, fairJ v c.justice c.justice.length ++ selF (-1) v c.fairness c.fairness.length⟩
theorem selI_t {v : List Bool} {ls : List Int} {i : Nat} (h : lv v (gt ls (i : Int)) = true) : selI v ls (i + 1) = selI v ls i ++ [(i : Int)] := by unfold selI; rw [List.range_succ, List.filter_append, List.map_append]; simp [h]
theorem selI_f {v : List Bool} {ls : List Int} {i : Nat} (h : lv v (gt ls (i : Int)) = false) : selI v ls (i + 1) = selI v ls i := by unfold selI; rw [List.range_succ, List.filter_append, List.map_append]; simp [h]
theorem selF_t {a : Int} {v : List Bool} {ls : List Int} {i : Nat} (h : lv v (gt ls (i : Int)) = true) : selF a v ls (i + 1) = selF a v ls i ++ [(a, (i : Int))] := by unfold selF; rw [List.range_succ, List.filter_append, List.map_append]; simp [h]
theorem selF_f {a : Int} {v : List Bool} {ls : List Int} {i : Nat} (h : lv v (gt ls (i : Int)) = false) : selF a v ls (i + 1) = selF a v ls i := by unfold selF; rw [List.range_succ, List.filter_append, List.map_append]; simp [h]
theorem selI_len (v : List Bool) (ls : List Int) (i : Nat) : (selI v ls i).length ≤ i := by unfold selI; rw [List.length_map]; exact Nat.le_trans (List.length_filter_le ..) (by simp)
theorem selF_len (a : Int) (v : List Bool) (ls : List Int) (i : Nat) : (selF a v ls i).length ≤ i := by unfold selF; rw [List.length_map]; exact Nat.le_trans (List.length_filter_le ..) (by simp)
theorem fairJ_succ (v : List Bool) (js : List (List Int)) (i : Nat) : fairJ v js (i + 1) = fairJ v js i ++ selF (i : Int) v (js.getD i []) (js.getD i []).length := by unfold fairJ; rw [List.range_succ, List.flatMap_append]; simp
theorem sumL_take_le (l : List (List Int)) (i : Nat) : sumL (l.take i) ≤ sumL l := by
  unfold sumL
  induction l generalizing i with
  | nil => simp
  | cons a r ih =>
    cases i with
    | zero => simp
    | succ i => simp only [List.take_succ_cons, List.map_cons, List.sum_cons]; have := ih i; omega
theorem fairJ_len (v : List Bool) (js : List (List Int)) (i : Nat) (h : i ≤ js.length) : (fairJ v js i).length ≤ sumL (js.take i) := by
  induction i with
  | zero => simp [fairJ]
  | succ i ih =>
    have h1 := ih (by omega)
    have h2 := selF_len (i : Int) v (js.getD i []) (js.getD i []).length
    rw [fairJ_succ, List.length_append, List.take_succ_eq_append_getElem (by omega)]
    unfold sumL at *
    rw [List.map_append, List.sum_append]
    have e1 : js.getD i [] = js[i] := by simp [show i < js.length by omega]
    rw [e1] at h2 ⊢
    simp only [List.map_cons, List.map_nil, List.sum_cons, List.sum_nil]
    omega
theorem Right.sumJ {c : Circ} (R : Right c) (hf : c.Fits) : sumL c.justice ≤ 16384 := by
  have h1 := sumL_le (l := c.justice) (M := 17592186044416) fun x hx => by have := hf.each x hx; omega
  have h2 := R.nJust
  have h3 := R.sum
  unfold sumW at h3
  have h4 : c.justice.length * 17592186044416 ≤ 16384 * 17592186044416 := Nat.mul_le_mul_right _ h2
  rw [wrap64_id (by omega) (by omega)] at h3
  omega
theorem each_sum {l : List (List Int)} {i : Nat} (h : i < l.length) : sumL (l.take i) + l[i].length ≤ sumL l := by
  have := sumL_take_le l (i + 1)
  rw [List.take_succ_eq_append_getElem h] at this
  unfold sumL at *
  rw [List.map_append, List.sum_append] at this
  simpa using this
/-- What moment answers: a struct, its three lists new memory. -/
def MomR (m : Mom) (v : Value) (N : Mm) : Prop := ∃ hm : HMom, v = .agg (encM (hm, m)).toArray ∧ N = momE (hm, m)
attribute [local irreducible] WC WL WX WS WO OX Does DoesU Enters CV Pure thenQ blockQ retQ Wants retQC GC GL GS GX RdB thenG blockG retG Rd At gt CVN CVM
set_option maxRecDepth 100000
end SC
end Go.Proofs.Ytkndegjodnciaaa
end
section
/- sim: moment. -/
set_option linter.unusedVariables false
set_option linter.unusedSimpArgs false
namespace Go.Proofs.Ytkndegjodnciaaa
namespace SC
open Go.Proofs
attribute [local irreducible] WC WL WX WS WO OX Does DoesU Enters CV Pure thenQ blockQ retQ Wants retQC GC GL GS GX RdB thenG blockG retG Rd At gt CVN CVM
set_option maxRecDepth 100000
/-- The closure that tells the fair spots. -/
def fairC (b : Nat) (x0 x1 x2 : Value) (A : Option Addr) (k : Nat) (F : List (Int × Int)) : Mm := [.box b 82 [x0, x1, x2, .slice A F.length k], .vec spotc 2 138 A k F]
theorem fair_cv {w : World} {b5 b7 k c kF kL : Nat} {x0 x1 x2 : Value} {A AF L : Option Addr} {v : List Bool} {F : List (Int × Int)} {ls : List Int} {at_ : Int} (M : Mem w (fairC b7 x0 x1 x2 AF kF F)) (hB : RdB [.old w (owns (fairC b7 x0 x1 x2 AF kF F))] b5 62 [.slice A k c]) (hA : Rd [.old w (owns (fairC b7 x0 x1 x2 AF kF F))] booc 1 A v) (hL : Rd [.old w (owns (fairC b7 x0 x1 x2 AF kF F))] icell 1 L ls)
    (hk : k = v.length) (hin : ∀ l ∈ ls, hasL v l) (hn : F.length + ls.length ≤ 100000) : CVM Try.prog 146 ([nu at_, .slice L ls.length kL] ++ (#[pt b5, pt b7] : Array Value).toList) w (fairC b7 x0 x1 x2 AF kF F) fun r N => r = .tuple #[] ∧ ∃ A' k', N = fairC b7 x0 x1 x2 A' k' (F ++ selF at_ v ls ls.length) := by
  obtain ⟨S, hS⟩ : ∃ S, S = owns (fairC b7 x0 x1 x2 AF kF F) := ⟨_, rfl⟩
  rw [← hS] at hB hA hL
  have his : ∀ Γ, In Γ (.old w S) → ∀ l, hasL v l → ∀ w', Mem w' Γ → CVN Try.prog 145 [.slice A k c, nu l] w' _ := fun Γ hi l hl w' M => is_cv (hA.at (hi.one M)) hk hl
  refine CVM.enter 27 [] Try.func146 rfl rfl rfl (by decide) rfl M ?_
  rw [← hS]
  clear hS M
  unfold fairC
  repeat' (first
      | (apply GC_seqK; intro K hK)
      | (apply hK; clear hK K)
      | (apply GC_block)
      | (apply GC_region)
      | (apply GL_nil)
      | (apply thenG_normal)
      | (apply GL_on; eq_refl; eq_refl)
      | (apply G_pv; eq_refl; first | exact trivial | omega)
      | (apply G_len; eq_refl))
  refine GC_loopK [0, 2, 3, 8, 9] (fun t : Nat × List (Int × Int) × Option Addr × Nat => [(10, nu t.1)]) (fun t => [.box b7 82 [x0, x1, x2, .slice t.2.2.1 t.2.1.length t.2.2.2], .vec spotc 2 138 t.2.2.1 t.2.2.2 t.2.1, .old w S])
    (fun t => t.1 ≤ ls.length ∧ t.2.1 = F ++ selF at_ v ls t.1) (fun t => ls.length - t.1) (0, F, AF, kF) (by repeat first | exact Pick.nil | (apply Pick.cons; eq_refl)) (by repeat first | exact trivial | refine ⟨rfl, ?_⟩) (by repeat first | exact Wk.nil | exact Wk.refl | (apply Wk.cons; (focus ((repeat first | exact Rem.here | apply Rem.there | apply Rem.skip); done))) | apply Wk.nilv | apply Wk.last | apply Wk.drop) ⟨Nat.zero_le _, by simp [selF]⟩ ?_
  rintro ⟨j, F2, AF2, kF2⟩ ⟨hj, hF2⟩
  dsimp only at hj hF2 ⊢
  have hFl2 : F2.length ≤ F.length + j := by rw [hF2, List.length_append]; have := selF_len at_ v ls j; omega
  rcases Nat.lt_or_ge j ls.length with hlt2 | hge2
  · have hl := hin _ (gt_mem (l := ls) (i := (j : Int)) (by omega) (by omega))
    repeat' (first
      | (apply G_call; eq_refl; eq_refl; (apply his; (repeat first | exact In.here | apply In.there | apply In.skip); assumption); rintro _ _ ⟨rfl, rfl⟩)
      | (apply GC_seqK; intro K hK)
      | (apply hK; clear hK K)
      | (apply GC_block)
      | (apply GC_region)
      | (apply GL_nil)
      | (apply thenG_normal)
      | (apply blockG_normal)
      | (apply GC_skip)
      | (apply GC_if_true; eq_refl)
      | (apply GC_if; eq_refl; all_goals intro _)
      | (apply GL_on; eq_refl; eq_refl)
      | (apply G_pv; eq_refl; first | exact trivial | omega)
      | (apply G_field; eq_refl)
      | (apply G_ld; eq_refl; (repeat first | exact In.here | apply In.there | apply In.skip); eq_refl)
      | (apply G_ldR; eq_refl; (apply RdB.oldR; (repeat first | exact In.here | apply In.there | apply In.skip); assumption); eq_refl)
      | (apply G_rd; eq_refl; (first | (apply Rd.own; (repeat first | exact In.here | apply In.there | apply In.skip); infer_instance) | (apply Rd.old; (repeat first | exact In.here | apply In.there | apply In.skip); assumption) | (apply Rd.oldR; (repeat first | exact In.here | apply In.there | apply In.skip); assumption) | exact Rd.nil | assumption); (case ih => infer_instance); omega; omega; eq_refl)
      | (apply G_cmpT; eq_refl; eq_refl; omega)
      | (apply G_ix; eq_refl; eq_refl; (first | (apply Rd.own; (repeat first | exact In.here | apply In.there | apply In.skip); infer_instance) | (apply Rd.old; (repeat first | exact In.here | apply In.there | apply In.skip); assumption) | (apply Rd.oldR; (repeat first | exact In.here | apply In.there | apply In.skip); assumption) | exact Rd.nil | assumption); (first | eq_refl | omega); omega; omega)
      | (apply G_st; (first | exact wr_p | kernel_rfl); eq_refl; eq_refl; eq_refl; eq_refl; (repeat first | exact Upd.here | apply Upd.there | apply Upd.skip); (first | decide | exact Nat.le_of_ble_eq_true rfl))
      | (apply G_app; (first | exact wr_p | kernel_rfl); eq_refl; eq_refl; (intro A c; (repeat first | exact Upd.here | apply Upd.there | apply Upd.skip)); infer_instance; (repeat first | exact In.here | apply In.there | apply In.skip); (repeat first | exact Dec.nil | apply Dec.pr | apply Dec.tr | (apply Dec.c1; eq_refl) | (apply Dec.c2; eq_refl) | (apply Dec.c3; eq_refl)); eq_refl; eq_refl; eq_refl; ((try simp only [List.length_append, List.length_cons, List.length_nil]); omega); decide; intro _ _)
      | (apply GX_pure; apply build138_0_1 <;> eq_refl)
      | (apply G_new (fun b => .slice (some ⟨b, 0, none⟩) 1 1); eq_refl; (intro _; apply buildS80_1 <;> eq_refl); intro _))
    · exact ⟨(j + 1, _, _, _), (by repeat first | exact trivial | refine ⟨rfl, ?_⟩), (by repeat first | exact Wk.nil | exact Wk.refl | (apply Wk.cons; (focus ((repeat first | exact Rem.here | apply Rem.there | apply Rem.skip); done))) | apply Wk.nilv | apply Wk.last | apply Wk.drop), ⟨hlt2, by rw [selF_t (by assumption), hF2, List.append_assoc]⟩, by simp only; omega⟩
    · exact ⟨(j + 1, _, _, _), (by repeat first | exact trivial | refine ⟨rfl, ?_⟩), (by repeat first | exact Wk.nil | exact Wk.refl | (apply Wk.cons; (focus ((repeat first | exact Rem.here | apply Rem.there | apply Rem.skip); done))) | apply Wk.nilv | apply Wk.last | apply Wk.drop), ⟨hlt2, by rw [selF_f (by assumption), hF2]⟩, by simp only; omega⟩
  · obtain rfl : j = ls.length := by omega
    repeat' (first
      | (apply GC_seqK; intro K hK)
      | (apply hK; clear hK K)
      | (apply GC_region)
      | (apply GL_nil)
      | (apply thenG_normal)
      | (apply thenG_exit)
      | (apply blockG_hit)
      | (apply GC_exit)
      | (apply GC_if_false; eq_refl)
      | (apply retG0n)
      | (apply GL_on; eq_refl; eq_refl)
      | (apply G_cmpF; eq_refl; eq_refl; omega))
    subst hF2
    exact ⟨_, (by repeat first | exact Wk.nil | exact Wk.refl | (apply Wk.cons; (focus ((repeat first | exact Rem.here | apply Rem.there | apply Rem.skip); done))) | apply Wk.nilv | apply Wk.last | apply Wk.drop), rfl, AF2, kF2, rfl⟩
theorem clone144_cv {w : World} {A : Option Addr} {k : Nat} {l : List Bool} (hA : RowA w booc 1 A l) (hn : l.length ≤ 140737488355000) : CVN Try.prog 144 [.slice A l.length k] w fun v N => ∃ A' k', v = .slice A' l.length k' ∧ N = [.vec booc 1 4 A' k' l] := by
  refine CVN.enter 8 [2] Try.func144 rfl rfl rfl (by decide) rfl ?_
  cases A with
  | none =>
    obtain rfl : l = [] := List.length_eq_zero_iff.1 hA.nil_of
    repeat' (first
      | (apply GC_seqK; intro K hK)
      | (apply hK; clear hK K)
      | (apply GC_region)
      | (apply GL_nil)
      | (apply thenG_normal)
      | (apply thenG_ret)
      | (apply GC_ret)
      | (apply GC_if_true; eq_refl)
      | (apply retG1; eq_refl)
      | (apply GL_on; eq_refl; eq_refl)
      | (apply G_pv; eq_refl; first | exact trivial | omega)
      | (apply G_eqL; eq_refl; eq_refl))
    exact ⟨[.vec booc 1 4 none 0 []], (by repeat first | exact Wk.nil | exact Wk.refl | (apply Wk.cons; (focus ((repeat first | exact Rem.here | apply Rem.there | apply Rem.skip); done))) | apply Wk.nilv | apply Wk.last | apply Wk.drop), none, 0, rfl, rfl⟩
  | some p =>
    have hk : some p = none → k = 0 := fun h => by cases h
    repeat' (first
      | (apply GC_seqK; intro K hK)
      | (apply hK; clear hK K)
      | (apply GC_region)
      | (apply GL_nil)
      | (apply thenG_normal)
      | (apply GC_ret)
      | (apply GC_skip)
      | (apply GC_if_false; eq_refl)
      | (apply retG1; eq_refl)
      | (apply GL_on; eq_refl; eq_refl)
      | (apply G_pv; eq_refl; first | exact trivial | omega)
      | (apply G_eqL; eq_refl; eq_refl)
      | (apply G_appBR; (first | exact wr_p | kernel_rfl); eq_refl; eq_refl; (first | (apply Rd.own; (repeat first | exact In.here | apply In.there | apply In.skip); infer_instance) | (apply Rd.old; (repeat first | exact In.here | apply In.there | apply In.skip); assumption) | (apply Rd.oldR; (repeat first | exact In.here | apply In.there | apply In.skip); assumption) | exact Rd.nil | assumption); infer_instance; (repeat first | exact Upd.here | apply Upd.there | apply Upd.skip); (repeat first | exact Dec.nil | apply Dec.pr | apply Dec.tr | (apply Dec.c1; eq_refl) | (apply Dec.c2; eq_refl) | (apply Dec.c3; eq_refl)); (intro A c; (repeat first | exact Upd.here | apply Upd.there | apply Upd.skip)); (intro _; trivial); (first | (apply Rd.own; (repeat first | exact In.here | apply In.there | apply In.skip); infer_instance) | (apply Rd.old; (repeat first | exact In.here | apply In.there | apply In.skip); assumption) | (apply Rd.oldR; (repeat first | exact In.here | apply In.there | apply In.skip); assumption) | exact Rd.nil | assumption); assumption; eq_refl; eq_refl; decide; eq_refl; eq_refl; (try simp only [List.length_nil]); omega; decide; intro _ _)
      | (apply G_new (fun b => .slice (some ⟨b, 0, none⟩) 0 0); eq_refl; (intro _; apply buildS62_0); intro _))
    exact ⟨[_], (by repeat first | exact Wk.nil | exact Wk.refl | (apply Wk.cons; (focus ((repeat first | exact Rem.here | apply Rem.there | apply Rem.skip); done))) | apply Wk.nilv | apply Wk.last | apply Wk.drop), _, _, rfl, rfl⟩
theorem moment_cv {w : World} {c : Circ} {h js : Hd} {p : Nat} {B S A : Option Addr} {k k1 k2 : Nat} {s v : List Bool} (R : Right c) (hP : Blk w p 163 (rcells c h B k1)) (H : CirAt w c h js) (hf : c.Fits) (hS : RowA w booc 1 S s) (hn : s.length ≤ 16384) (hA : RowA w booc 1 A v) (hv : v.length = (c.max + 1).toNat) :
    CVN Try.prog 109 [pt p, .slice S s.length k, .slice A v.length k2] w (MomR (momM c s v)) := by
  have m1 := R.m1
  have n1 := R.nBad
  have n2 := R.nFair
  have n3 := R.nJust
  have n5 := R.sumJ hf
  have hBad := H.bads
  have hFair := H.fairness
  have hJ := H.jrow
  have hjl := jps_len c js
  have hall : ∀ Γ, In Γ (.old w none_) → ∀ w', Mem w' Γ → CVN Try.prog 118 [pt p, .slice A v.length k2] w' _ := fun Γ hi w' M => holds_cv (hP.chg (hi.old M) id) (H.chg (hi.old M)) (hA.chg (hi.old M)) R.nCon fun l hl => (R.con hl).has m1 hv
  have hcl : ∀ Γ, In Γ (.old w none_) → ∀ w', Mem w' Γ → CVN Try.prog 144 [.slice S s.length k] w' _ := fun Γ hi w' M => clone144_cv (hS.chg (hi.old M)) (by omega)
  have hlit : ∀ Γ, In Γ (.old w none_) → ∀ l, inR c l → ∀ w', Mem w' Γ → CVN Try.prog 145 [.slice A v.length k2, nu l] w' _ := fun Γ hi l hl w' M => is_cv (hA.chg (hi.old M)) rfl (hl.has m1 hv)
  have hfr : ∀ {Γ Γ' : Mm} {b5 b7 kF kL : Nat} {x0 x1 x2 : Value} {AF L : Option Addr} {F : List (Int × Int)} {ls : List Int} {at_ : Int}, Rems Γ (fairC b7 x0 x1 x2 AF kF F) Γ' → In Γ' (.box b5 62 [.slice A v.length k2]) → In Γ' (.old w none_) → RowA w icell 1 L ls → (∀ l ∈ ls, inR c l) → F.length + ls.length ≤ 100000 → ∀ w', Mem w' Γ →
      CVM Try.prog 146 ([nu at_, .slice L ls.length kL] ++ (#[pt b5, pt b7] : Array Value).toList) w' (fairC b7 x0 x1 x2 AF kF F) _ := fun hC hb ho hL hin hl w' M => fair_cv (M.takes hC).left ((RdB.own hb).frame (M.takes hC)) ((Rd.old ho hA).frame (M.takes hC)) ((Rd.old ho hL).frame (M.takes hC)) rfl (fun l hl => (hin l hl).has m1 hv) hl
  refine CVN.enterC (t := 82) 65 6 [] Try.func109 rfl rfl rfl (.inl rfl) rfl ?_
  repeat' (first
      | (apply G_call; eq_refl; eq_refl; (apply hcl; (repeat first | exact In.here | apply In.there | apply In.skip)); rintro _ _ ⟨A0, k0, rfl, rfl⟩)
      | (apply G_call; eq_refl; eq_refl; (apply hall; (repeat first | exact In.here | apply In.there | apply In.skip)); rintro _ _ ⟨rfl, rfl⟩)
      | (apply GC_seqK; intro K hK)
      | (apply hK; clear hK K)
      | (apply GC_block)
      | (apply GC_region)
      | (apply GL_nil)
      | (apply thenG_normal)
      | (apply GL_on; eq_refl; eq_refl)
      | (refine GC_draws (id := 1) [.q 0, .q 2, .q 3, .f 6, .c 1, .c 4, .q 5, .land, .c 7] mixed (by kernel_rfl) (by kernel_rfl) ?_)
      | (apply GS_nil)
      | (apply GS_qon; eq_refl; eq_refl; eq_refl; eq_refl)
      | (apply GS_con; eq_refl; eq_refl; eq_refl; eq_refl)
      | (apply GS_fl; eq_refl; infer_instance; eq_refl; eq_refl; eq_refl)
      | (apply GS_land; simp only [landG]; intros)
      | (apply G_pv; eq_refl; first | exact trivial | omega)
      | (apply G_field; eq_refl)
      | (apply G_ld; eq_refl; (repeat first | exact In.here | apply In.there | apply In.skip); eq_refl)
      | (apply G_ldO; eq_refl; (repeat first | exact In.here | apply In.there | apply In.skip); assumption; eq_refl)
      | (apply G_len; eq_refl)
      | (apply G_alloc; eq_refl; intro _)
      | (apply G_box; eq_refl; eq_refl; intro _)
      | (apply G_stW; (first | exact wr_p | kernel_rfl); eq_refl; eq_refl; eq_refl; eq_refl; (repeat first | exact Upd.here | apply Upd.there | apply Upd.skip); eq_refl)
      | (apply GX_pure; apply build82_0_1 <;> eq_refl))
  rename_i b5 b6 b7
  refine GC_loopK [0, 5, 6, 7, 23, 24] (fun t : Nat × List Int × Option Addr × Nat => [(25, nu t.1)]) (fun t => [.box b7 82 [.slice A0 s.length k0, .bool (c.constraints.all (lv v)), .slice t.2.2.1 t.2.1.length t.2.2.2, .slice none 0 0], .vec icell 1 3 t.2.2.1 t.2.2.2 t.2.1, .vec booc 1 4 A0 k0 s, .box b6 82 [.slice none 0 0, .bool false, .slice none 0 0, .slice none 0 0], .box b5 62 [.slice A v.length k2], .old w none_])
    (fun t => t.1 ≤ c.bads.length ∧ t.2.1 = selI v c.bads t.1) (fun t => c.bads.length - t.1) (0, [], none, 0) (by repeat first | exact Pick.nil | (apply Pick.cons; eq_refl)) (by repeat first | exact trivial | refine ⟨rfl, ?_⟩) (by repeat first | exact Wk.nil | exact Wk.refl | (apply Wk.cons; (focus ((repeat first | exact Rem.here | apply Rem.there | apply Rem.skip); done))) | apply Wk.nilv | apply Wk.last | apply Wk.drop) ⟨Nat.zero_le _, rfl⟩ ?_
  rintro ⟨i, B, AB, kB⟩ ⟨hi, hB⟩
  dsimp only at hi hB ⊢
  have hBl : B.length ≤ i := by rw [hB]; exact selI_len ..
  rcases Nat.lt_or_ge i c.bads.length with hlt | hge
  · have hl := R.bad (gt_mem (l := c.bads) (i := (i : Int)) (by omega) (by omega))
    repeat' (first
      | (apply G_call; eq_refl; eq_refl; (apply hlit; (repeat first | exact In.here | apply In.there | apply In.skip); assumption); rintro _ _ ⟨rfl, rfl⟩)
      | (apply GC_seqK; intro K hK)
      | (apply hK; clear hK K)
      | (apply GC_block)
      | (apply GC_region)
      | (apply GL_nil)
      | (apply thenG_normal)
      | (apply blockG_normal)
      | (apply GC_skip)
      | (apply GC_if_true; eq_refl)
      | (apply GC_if; eq_refl; all_goals intro _)
      | (apply GL_on; eq_refl; eq_refl)
      | (apply G_pv; eq_refl; first | exact trivial | omega)
      | (apply G_field; eq_refl)
      | (apply G_ld; eq_refl; (repeat first | exact In.here | apply In.there | apply In.skip); eq_refl)
      | (apply G_rd; eq_refl; (first | (apply Rd.own; (repeat first | exact In.here | apply In.there | apply In.skip); infer_instance) | (apply Rd.old; (repeat first | exact In.here | apply In.there | apply In.skip); assumption) | (apply Rd.oldR; (repeat first | exact In.here | apply In.there | apply In.skip); assumption) | exact Rd.nil | assumption); (case ih => infer_instance); omega; omega; eq_refl)
      | (apply G_cmpT; eq_refl; eq_refl; omega)
      | (apply G_ix; eq_refl; eq_refl; (first | (apply Rd.own; (repeat first | exact In.here | apply In.there | apply In.skip); infer_instance) | (apply Rd.old; (repeat first | exact In.here | apply In.there | apply In.skip); assumption) | (apply Rd.oldR; (repeat first | exact In.here | apply In.there | apply In.skip); assumption) | exact Rd.nil | assumption); (first | eq_refl | omega); omega; omega)
      | (apply G_st; (first | exact wr_p | kernel_rfl); eq_refl; eq_refl; eq_refl; eq_refl; (repeat first | exact Upd.here | apply Upd.there | apply Upd.skip); (first | decide | exact Nat.le_of_ble_eq_true rfl))
      | (apply G_app; (first | exact wr_p | kernel_rfl); eq_refl; eq_refl; (intro A c; (repeat first | exact Upd.here | apply Upd.there | apply Upd.skip)); infer_instance; (repeat first | exact In.here | apply In.there | apply In.skip); (repeat first | exact Dec.nil | apply Dec.pr | apply Dec.tr | (apply Dec.c1; eq_refl) | (apply Dec.c2; eq_refl) | (apply Dec.c3; eq_refl)); eq_refl; eq_refl; eq_refl; ((try simp only [List.length_append, List.length_cons, List.length_nil]); omega); decide; intro _ _)
      | (apply G_new (fun b => .slice (some ⟨b, 0, none⟩) 1 1); eq_refl; (intro _; apply buildS45_1 <;> eq_refl); intro _))
    · exact ⟨(i + 1, _, _, _), (by repeat first | exact trivial | refine ⟨rfl, ?_⟩), (by repeat first | exact Wk.nil | exact Wk.refl | (apply Wk.cons; (focus ((repeat first | exact Rem.here | apply Rem.there | apply Rem.skip); done))) | apply Wk.nilv | apply Wk.last | apply Wk.drop), ⟨hlt, by rw [selI_t (by assumption), hB]⟩, by simp only; omega⟩
    · exact ⟨(i + 1, _, _, _), (by repeat first | exact trivial | refine ⟨rfl, ?_⟩), (by repeat first | exact Wk.nil | exact Wk.refl | (apply Wk.cons; (focus ((repeat first | exact Rem.here | apply Rem.there | apply Rem.skip); done))) | apply Wk.nilv | apply Wk.last | apply Wk.drop), ⟨hlt, by rw [selI_f (by assumption), hB]⟩, by simp only; omega⟩
  · obtain rfl : i = c.bads.length := by omega
    repeat' (first
      | (apply GC_seqK; intro K hK)
      | (apply hK; clear hK K)
      | (clear hK K; apply hK; clear hK K)
      | (apply GC_block)
      | (apply GC_region)
      | (apply GL_nil)
      | (apply thenG_normal)
      | (apply thenG_exit)
      | (apply blockG_hit)
      | (apply GC_exit)
      | (apply GC_if_false; eq_refl)
      | (apply GL_on; eq_refl; eq_refl)
      | (apply G_pv; eq_refl; first | exact trivial | omega)
      | (apply G_field; eq_refl)
      | (apply G_ldO; eq_refl; (repeat first | exact In.here | apply In.there | apply In.skip); assumption; eq_refl)
      | (apply G_cmpF; eq_refl; eq_refl; omega)
      | (apply G_len; eq_refl)
      | (apply G_fun; eq_refl))
    refine GC_loopK [0, 5, 6, 7, 10, 45, 46] (fun t : Nat × List (Int × Int) × Option Addr × Nat => [(47, nu t.1)]) (fun t => [.box b7 82 [.slice A0 s.length k0, .bool (c.constraints.all (lv v)), .slice AB B.length kB, .slice t.2.2.1 t.2.1.length t.2.2.2], .vec spotc 2 138 t.2.2.1 t.2.2.2 t.2.1, .vec icell 1 3 AB kB B, .vec booc 1 4 A0 k0 s, .box b6 82 [.slice none 0 0, .bool false, .slice none 0 0, .slice none 0 0], .box b5 62 [.slice A v.length k2], .old w none_])
      (fun t => t.1 ≤ c.justice.length ∧ t.2.1 = fairJ v c.justice t.1) (fun t => c.justice.length - t.1) (0, [], none, 0) (by repeat first | exact Pick.nil | (apply Pick.cons; eq_refl)) (by repeat first | exact trivial | refine ⟨rfl, ?_⟩) (by repeat first | exact Wk.nil | exact Wk.refl | (apply Wk.cons; (focus ((repeat first | exact Rem.here | apply Rem.there | apply Rem.skip); done))) | apply Wk.nilv | apply Wk.last | apply Wk.drop) ⟨Nat.zero_le _, rfl⟩ ?_
    rintro ⟨i, F, AF, kF⟩ ⟨hi2, hF⟩
    dsimp only at hi2 hF ⊢
    have hFl := fairJ_len v c.justice i hi2
    rw [← hF] at hFl
    rcases Nat.lt_or_ge i c.justice.length with hlt | hge
    · have hje := H.jeach (js := js) hlt
      have ej := jps_gt c js hlt
      have el : (gt (jps c js) (i : Int)).2 = c.justice.getD i [] := by rw [ej]; simp [hlt]
      have hes := each_sum hlt
      have el2 : (gt (jps c js) (i : Int)).2.length = c.justice[i].length := by rw [ej]
      have hin : ∀ l ∈ (gt (jps c js) (i : Int)).2, inR c l := fun l hl => R.just (ls := c.justice[i]) (List.getElem_mem hlt) (by rw [ej] at hl; exact hl)
      have hsc := fairJ_succ v c.justice i
      rw [← el, ← hF] at hsc
      repeat' (first
      | (apply G_callC (C := fairC b7 _ _ _ AF kF F); exact wr_p; eq_refl; infer_instance; eq_refl; (repeat first | exact Rems.nil | (apply Rems.cons; (focus ((repeat first | exact Rem.here | apply Rem.there | apply Rem.skip); done)))); (apply hfr; (repeat first | exact Rems.nil | (apply Rems.cons; (focus ((repeat first | exact Rem.here | apply Rem.there | apply Rem.skip); done)))); (repeat first | exact In.here | apply In.there | apply In.skip); (repeat first | exact In.here | apply In.there | apply In.skip); exact hje; exact hin; omega); rintro _ _ ⟨rfl, A9, k9, rfl⟩)
      | (apply GC_seqK; intro K hK)
      | (apply hK; clear hK K)
      | (apply GC_block)
      | (apply GC_region)
      | (apply GL_nil)
      | (apply thenG_normal)
      | (apply blockG_normal)
      | (apply GC_skip)
      | (apply GC_if_true; eq_refl)
      | (apply GL_on; eq_refl; eq_refl)
      | (apply G_pv; eq_refl; first | exact trivial | omega)
      | (apply G_rd; eq_refl; (first | (apply Rd.own; (repeat first | exact In.here | apply In.there | apply In.skip); infer_instance) | (apply Rd.old; (repeat first | exact In.here | apply In.there | apply In.skip); assumption) | (apply Rd.oldR; (repeat first | exact In.here | apply In.there | apply In.skip); assumption) | exact Rd.nil | assumption); (case ih => infer_instance); omega; omega; eq_refl)
      | (apply G_cmpT; eq_refl; eq_refl; omega)
      | (apply G_ix; eq_refl; eq_refl; (first | (apply Rd.own; (repeat first | exact In.here | apply In.there | apply In.skip); infer_instance) | (apply Rd.old; (repeat first | exact In.here | apply In.there | apply In.skip); assumption) | (apply Rd.oldR; (repeat first | exact In.here | apply In.there | apply In.skip); assumption) | exact Rd.nil | assumption); (first | eq_refl | omega); omega; omega))
      exact ⟨(i + 1, _, _, _), (by repeat first | exact trivial | refine ⟨rfl, ?_⟩), (by repeat first | exact Wk.nil | exact Wk.refl | (apply Wk.cons; (focus ((repeat first | exact Rem.here | apply Rem.there | apply Rem.skip); done))) | apply Wk.nilv | apply Wk.last | apply Wk.drop), ⟨hlt, by rw [hsc]⟩, by simp only; omega⟩
    · obtain rfl : i = c.justice.length := by omega
      rw [List.take_length] at hFl
      repeat' (first
      | (apply G_callC (C := fairC b7 _ _ _ AF kF F); exact wr_p; eq_refl; infer_instance; eq_refl; (repeat first | exact Rems.nil | (apply Rems.cons; (focus ((repeat first | exact Rem.here | apply Rem.there | apply Rem.skip); done)))); (apply hfr; (repeat first | exact Rems.nil | (apply Rems.cons; (focus ((repeat first | exact Rem.here | apply Rem.there | apply Rem.skip); done)))); (repeat first | exact In.here | apply In.there | apply In.skip); (repeat first | exact In.here | apply In.there | apply In.skip); exact hFair; exact fun l hl => R.fair hl; omega); rintro _ _ ⟨rfl, A9, k9, rfl⟩)
      | (apply GC_seqK; intro K hK)
      | (apply hK; clear hK K)
      | (clear hK K; apply hK; clear hK K)
      | (apply GC_region)
      | (apply GL_nil)
      | (apply thenG_normal)
      | (apply thenG_exit)
      | (apply blockG_hit)
      | (apply GC_ret)
      | (apply GC_exit)
      | (apply GC_if_false; eq_refl)
      | (apply retGC0; eq_refl; (repeat first | exact In.here | apply In.there | apply In.skip); eq_refl)
      | (apply GL_on; eq_refl; eq_refl)
      | (apply G_pv; eq_refl; first | exact trivial | omega)
      | (apply G_field; eq_refl)
      | (apply G_ldW; eq_refl; (repeat first | exact In.here | apply In.there | apply In.skip); eq_refl)
      | (apply G_ldO; eq_refl; (repeat first | exact In.here | apply In.there | apply In.skip); assumption; eq_refl)
      | (apply G_cmpF; eq_refl; eq_refl; omega)
      | (apply G_stW; (first | exact wr_p | kernel_rfl); eq_refl; eq_refl; eq_refl; eq_refl; (repeat first | exact Upd.here | apply Upd.there | apply Upd.skip); eq_refl))
      subst hF hB
      exact ⟨_, (by repeat first | exact Wk.nil | exact Wk.refl | (apply Wk.cons; (focus ((repeat first | exact Rem.here | apply Rem.there | apply Rem.skip); done))) | apply Wk.nilv | apply Wk.last | apply Wk.drop), ((A0, k0), (AB, kB), (A9, k9)), rfl, rfl⟩
end SC
end Go.Proofs.Ytkndegjodnciaaa
end
section
/- Traces and runs. trestleref07: Fits, Run0, Run; sim: Run. -/
set_option linter.unusedVariables false
set_option linter.unusedSimpArgs false
namespace Go.Proofs.Ytkndegjodnciaaa
namespace SC
open Go.Proofs
abbrev Hdl := Option Addr × Nat
/-- A trace, each row with its handle. -/
structure Trc where
  init : List Bool
  rows : List (Hdl × List Bool)
  loop : Int
def tcs (t : Trc) (a b : Hdl) : List Value := [.slice a.1 t.init.length a.2, .slice b.1 t.rows.length b.2, nu t.loop]
structure TrcIn (w : World) (t : Trc) (a b : Hdl) : Prop where
  init : RowA w booc 1 a.1 t.init
  rows : RowA w encS 1 b.1 t.rows
  each : ∀ p ∈ t.rows, RowA w booc 1 p.1.1 p.2
  nila : a.1 = none → a.2 = 0
  nilb : b.1 = none → b.2 = 0
  nile : ∀ p ∈ t.rows, p.1.1 = none → p.1.2 = 0
  li : t.init.length ≤ 140737488350000
  lr : t.rows.length ≤ 5864062014000
  le : ∀ p ∈ t.rows, p.2.length ≤ 140737488350000
  lo : fits t.loop
theorem TrcIn.chg {w w' : World} {t : Trc} {a b : Hdl} (H : TrcIn w t a b) (hc : Chg w w' none_) : TrcIn w' t a b := ⟨H.init.chg hc, H.rows.chg hc, fun p hp => (H.each p hp).chg hc, H.nila, H.nilb, H.nile, H.li, H.lr, H.le, H.lo⟩
def fitsM (c : Circ) (t : Trc) : Bool := decide (t.init.length = c.latches.length) && decide (1 ≤ t.rows.length) && decide (t.rows.length ≤ 512) && decide (-1 ≤ t.loop) && decide (t.loop < t.rows.length) && t.rows.all fun p => decide (p.2.length = c.inputs.length)
structure Fit (c : Circ) (t : Trc) : Prop where
  init : t.init.length = c.latches.length
  pos : 1 ≤ t.rows.length
  few : t.rows.length ≤ 512
  lo : -1 ≤ t.loop
  hi : t.loop < t.rows.length
  rows : ∀ p ∈ t.rows, p.2.length = c.inputs.length
theorem fitsM_iff {c : Circ} {t : Trc} : fitsM c t = true ↔ Fit c t := by
  unfold fitsM
  simp only [Bool.and_eq_true, decide_eq_true_eq, List.all_eq_true]
  exact ⟨fun ⟨⟨⟨⟨⟨h1, h2⟩, h3⟩, h4⟩, h5⟩, h6⟩ => ⟨h1, h2, h3, h4, h5, h6⟩, fun h => ⟨⟨⟨⟨⟨h.init, h.pos⟩, h.few⟩, h.lo⟩, h.hi⟩, h.rows⟩⟩
/-- The states of a run, and what is so in its steps. -/
noncomputable def stM (c : Circ) (t : Trc) : Nat → List Bool
  | 0 => t.init
  | k + 1 => nxtM c (valM c (stM c t k) (gt t.rows (k : Int)).2)
noncomputable def runM (c : Circ) (t : Trc) (n : Nat) : List Mom := (List.range n).map fun k => momM c (stM c t k) (valM c (stM c t k) (gt t.rows (k : Int)).2)
theorem runM_succ (c : Circ) (t : Trc) (n : Nat) : runM c t (n + 1) = runM c t n ++ [momM c (stM c t n) (valM c (stM c t n) (gt t.rows (n : Int)).2)] := by unfold runM; rw [List.range_succ, List.map_append]; rfl
theorem runM_len (c : Circ) (t : Trc) (n : Nat) : (runM c t n).length = n := by unfold runM; simp
theorem stM_len {c : Circ} {t : Trc} (h : t.init.length = c.latches.length) : ∀ k, (stM c t k).length = c.latches.length
  | 0 => h
  | k + 1 => by unfold stM nxtM; simp
noncomputable def runE (c : Circ) (t : Trc) : Int := if (lookM c).2 ≠ 0 then (lookM c).2 else if fitsM c t = true then 0 else 4
noncomputable def runsM (c : Circ) (t : Trc) : List Mom := if runE c t = 0 then runM c t t.rows.length else []
theorem runE_look {c : Circ} {t : Trc} (h : (lookM c).2 ≠ 0) : runE c t = (lookM c).2 := if_pos h
theorem runE_fit {c : Circ} {t : Trc} (h : (lookM c).2 = 0) (h2 : Fit c t) : runE c t = 0 := by unfold runE; rw [if_neg (by omega), if_pos (fitsM_iff.2 h2)]
theorem runE_not {c : Circ} {t : Trc} (h : (lookM c).2 = 0) (h2 : ¬ Fit c t) : runE c t = 4 := by unfold runE; rw [if_neg (by omega), if_neg (fun hh => h2 (fitsM_iff.1 hh))]
/-- What Run answers. -/
def RunR (c : Circ) (t : Trc) (v : Value) (N : Mm) : Prop := ∃ (ps : List (HMom × Mom)) (A : Option Addr) (k : Nat), v = .tuple #[.slice A ps.length k, nu (runE c t)] ∧ ps.map (·.2) = runsM c t ∧ N = .vec encM 4 82 A k ps :: fam momE ps
instance : Inhabited HMom := ⟨((none, 0), (none, 0), (none, 0))⟩
attribute [local irreducible] WC WL WX WS WO OX Does DoesU Enters CV Pure thenQ blockQ retQ Wants retQC GC GL GS GX RdB thenG blockG retG Rd At gt CVN CVM
set_option maxRecDepth 100000
end SC
end Go.Proofs.Ytkndegjodnciaaa
end
section
/- trestleref07: Run; sim: Run. -/
set_option linter.unusedVariables false
set_option linter.unusedSimpArgs false
namespace Go.Proofs.Ytkndegjodnciaaa
namespace SC
open Go.Proofs
def stEnt : Nat → Option Addr → Nat → List Bool → Mm
  | 0, _, _, _ => []
  | _ + 1, A, k, l => [.vec booc 1 4 A k l]
attribute [local irreducible] WC WL WX WS WO OX Does DoesU Enters CV Pure thenQ blockQ retQ Wants retQC GC GL GS GX RdB thenG blockG retG Rd At gt CVN CVM
set_option maxRecDepth 100000
theorem Run_cv {w : World} {c : Circ} {h js : Hd} {t : Trc} {a b : Hdl} (H : CirIn w c h js) (HT : TrcIn w t a b) : CVN Try.prog 42 [.agg (ccells c h).toArray, .agg (tcs t a b).toArray] w (RunR c t) := by
  have hrd : ∀ Γ, In Γ (.old w none_) → ∀ w', Mem w' Γ → CVN Try.prog 107 [.agg (ccells c h).toArray] w' (ReadyR c h) := fun Γ hi w' M => ready_cv (H.chg (hi.old M))
  have hI := HT.init
  have hR := HT.rows
  have hlr := HT.lr
  have hli := HT.li
  have hlo := HT.lo
  unfold fits at hlo
  refine CVN.enter 94 [4, 5] Try.func42 rfl rfl rfl (by decide) rfl ?_
  by_cases he : (lookM c).2 = 0
  · have R := right_of H.at_ H.sane he
    have n1 := R.nIn
    have n2 := R.nLat
    by_cases h1 : 1 ≤ t.rows.length ∧ t.rows.length ≤ 512 ∧ -1 ≤ t.loop ∧ t.loop < t.rows.length ∧ t.init.length = c.latches.length
    · obtain ⟨g2, g3, g4, g5, g1⟩ := h1
      repeat' (first
      | (apply G_call; eq_refl; eq_refl; (apply hrd; (repeat first | exact In.here | apply In.there | apply In.skip)); rintro _ _ (⟨he', rfl, rfl⟩ | ⟨_, p1, B1, k1, rfl, rfl⟩); (exact absurd he he'))
      | (apply GC_seqK; intro K hK)
      | (apply hK; clear hK K)
      | (apply GC_block)
      | (apply GC_region)
      | (apply GL_nil)
      | (apply thenG_normal)
      | (apply GC_skip)
      | (apply GC_if_false; eq_refl)
      | (apply GL_on; eq_refl; eq_refl)
      | (apply G_pv; eq_refl; first | exact trivial | omega)
      | (apply G_field; eq_refl)
      | (apply G_ld; eq_refl; (repeat first | exact In.here | apply In.there | apply In.skip); eq_refl)
      | (apply G_ldW; eq_refl; (repeat first | exact In.here | apply In.there | apply In.skip); eq_refl)
      | (apply G_cmpF; eq_refl; eq_refl; omega)
      | (apply G_len; eq_refl)
      | (apply G_box; eq_refl; eq_refl; intro _))
      rename_i b2 b3 hz
      refine GC_loopK [2, 3, 6, 8, 54, 55] (fun i : Nat => [(56, nu i)]) (fun _ => [.box p1 163 (rcells c h B1 k1), .vec icell 1 3 B1 k1 (ordM c), .box b3 73 (tcs t a b), .box b2 51 (ccells c h), .old w none_]) (fun i => i ≤ t.rows.length ∧ ∀ k < i, (gt t.rows (k : Int)).2.length = c.inputs.length) (fun i => t.rows.length - i) 0 (by repeat first | exact Pick.nil | (apply Pick.cons; eq_refl)) (by repeat first | exact trivial | refine ⟨rfl, ?_⟩) (by repeat first | exact Wk.nil | exact Wk.refl | (apply Wk.cons; (focus ((repeat first | exact Rem.here | apply Rem.there | apply Rem.skip); done))) | apply Wk.nilv | apply Wk.last | apply Wk.drop) ⟨Nat.zero_le _, fun k hk => absurd hk (Nat.not_lt_zero _)⟩ ?_
      rintro i ⟨hi, hall⟩
      rcases Nat.lt_or_ge i t.rows.length with hlt | hge
      · have hm := gt_mem (l := t.rows) (i := (i : Int)) (by omega) (by omega)
        have hle := HT.le _ hm
        by_cases hx : (gt t.rows (i : Int)).2.length = c.inputs.length
        · repeat' (first
      | (apply GC_seqK; intro K hK)
      | (apply hK; clear hK K)
      | (apply GC_block)
      | (apply GC_region)
      | (apply GL_nil)
      | (apply thenG_normal)
      | (apply blockG_normal)
      | (apply GC_skip)
      | (apply GC_if_true; eq_refl)
      | (apply GC_if_false; eq_refl)
      | (apply GL_on; eq_refl; eq_refl)
      | (apply G_pv; eq_refl; first | exact trivial | omega)
      | (apply G_field; eq_refl)
      | (apply G_ld; eq_refl; (repeat first | exact In.here | apply In.there | apply In.skip); eq_refl)
      | (apply G_rd; eq_refl; (first | (apply Rd.own; (repeat first | exact In.here | apply In.there | apply In.skip); infer_instance) | (apply Rd.old; (repeat first | exact In.here | apply In.there | apply In.skip); assumption) | (apply Rd.oldR; (repeat first | exact In.here | apply In.there | apply In.skip); assumption) | exact Rd.nil | assumption); (case ih => infer_instance); omega; omega; eq_refl)
      | (apply G_cmpT; eq_refl; eq_refl; omega)
      | (apply G_cmpF; eq_refl; eq_refl; omega)
      | (apply G_len; eq_refl)
      | (apply G_ix; eq_refl; eq_refl; (first | (apply Rd.own; (repeat first | exact In.here | apply In.there | apply In.skip); infer_instance) | (apply Rd.old; (repeat first | exact In.here | apply In.there | apply In.skip); assumption) | (apply Rd.oldR; (repeat first | exact In.here | apply In.there | apply In.skip); assumption) | exact Rd.nil | assumption); (first | eq_refl | omega); omega; omega))
          exact ⟨i + 1, (by repeat first | exact trivial | refine ⟨rfl, ?_⟩), (by repeat first | exact Wk.nil | exact Wk.refl | (apply Wk.cons; (focus ((repeat first | exact Rem.here | apply Rem.there | apply Rem.skip); done))) | apply Wk.nilv | apply Wk.last | apply Wk.drop), ⟨hlt, fun k hk => if h1 : k < i then hall k h1 else by rw [show k = i by omega]; exact hx⟩, by omega⟩
        · have hnF : ¬ Fit c t := fun hf => hx (hf.rows _ hm)
          have e1 : runsM c t = [] := if_neg (by rw [runE_not he hnF]; decide)
          unfold RunR
          rw [runE_not he hnF, e1]
          repeat' (first
      | (apply GC_seqK; intro K hK)
      | (apply hK; clear hK K)
      | (apply GC_block)
      | (apply GC_region)
      | (apply GL_nil)
      | (apply thenG_normal)
      | (apply thenG_ret)
      | (apply blockG_ret)
      | (apply GC_ret)
      | (apply GC_skip)
      | (apply GC_if_true; eq_refl)
      | (apply retG2; eq_refl; eq_refl)
      | (apply GL_on; eq_refl; eq_refl)
      | (apply G_pv; eq_refl; first | exact trivial | omega)
      | (apply G_field; eq_refl)
      | (apply G_ld; eq_refl; (repeat first | exact In.here | apply In.there | apply In.skip); eq_refl)
      | (apply G_rd; eq_refl; (first | (apply Rd.own; (repeat first | exact In.here | apply In.there | apply In.skip); infer_instance) | (apply Rd.old; (repeat first | exact In.here | apply In.there | apply In.skip); assumption) | (apply Rd.oldR; (repeat first | exact In.here | apply In.there | apply In.skip); assumption) | exact Rd.nil | assumption); (case ih => infer_instance); omega; omega; eq_refl)
      | (apply G_cmpT; eq_refl; eq_refl; omega)
      | (apply G_len; eq_refl)
      | (apply G_ix; eq_refl; eq_refl; (first | (apply Rd.own; (repeat first | exact In.here | apply In.there | apply In.skip); infer_instance) | (apply Rd.old; (repeat first | exact In.here | apply In.there | apply In.skip); assumption) | (apply Rd.oldR; (repeat first | exact In.here | apply In.there | apply In.skip); assumption) | exact Rd.nil | assumption); (first | eq_refl | omega); omega; omega))
          exact ⟨[.vec encM 4 82 none 0 []], (by repeat first | exact Wk.nil | exact Wk.refl | (apply Wk.cons; (focus ((repeat first | exact Rem.here | apply Rem.there | apply Rem.skip); done))) | apply Wk.nilv | apply Wk.last | apply Wk.drop), [], none, 0, rfl, rfl, rfl⟩
      · have F : Fit c t := ⟨g1, g2, g3, g4, g5, fun p hp => by
          obtain ⟨k, hk, rfl⟩ := List.mem_iff_getElem.1 hp
          rw [← gt_nat hk]
          exact hall k (by omega)⟩
        have e1 : runsM c t = runM c t t.rows.length := if_pos (runE_fit he F)
        have hv0 : ∀ Γ S k s (i : Nat), i < t.rows.length → s = stM c t i → In Γ (.old w none_) → Rd Γ booc 1 S s → In Γ (.box p1 163 (rcells c h B1 k1)) → In Γ (.vec icell 1 3 B1 k1 (ordM c)) → ∀ w', Mem w' Γ → CVN Try.prog 108 [pt p1, .slice S s.length k, .slice (gt t.rows (i : Int)).1.1 (gt t.rows (i : Int)).2.length (gt t.rows (i : Int)).1.2] w' _ := fun Γ S k s i hi hs ho hv hb hov w' M => by
          have hm := gt_mem (l := t.rows) (i := (i : Int)) (by omega) (by omega)
          exact values_cv R (hb.box M) (H.at_.chg (ho.old M)) (hov.row M) (hv.at M) ((HT.each _ hm).chg (ho.old M)) (by rw [hs]; exact stM_len F.init i) (F.rows _ hm)
        have hmo : ∀ Γ S k A' k' s r, s.length = c.latches.length → In Γ (.old w none_) → Rd Γ booc 1 S s → In Γ (.box p1 163 (rcells c h B1 k1)) → In Γ (.vec booc 1 4 A' k' (valM c s r)) → ∀ w', Mem w' Γ → CVN Try.prog 109 [pt p1, .slice S s.length k, .slice A' (valM c s r).length k'] w' _ := fun Γ S k A' k' s r hs ho hv hb hv' w' M =>
          moment_cv R (hb.box M) (H.at_.chg (ho.old M)) H.fits (hv.at M) (by omega) (hv'.row M) (valM_len c s r)
        have hnx : ∀ Γ A k s r, In Γ (.old w none_) → In Γ (.box p1 163 (rcells c h B1 k1)) → In Γ (.vec booc 1 4 A k (valM c s r)) → ∀ w', Mem w' Γ → CVN Try.prog 110 [pt p1, .slice A (valM c s r).length k] w' _ := fun Γ A k s r ho hb hv w' M =>
          next_cv (hb.box M) (H.at_.chg (ho.old M)) (hv.row M) R.nLat fun x hx => (R.lat hx).2.1.has R.m1 (valM_len c s r)
        repeat' (first
      | (apply G_make0 encM; eq_refl; eq_refl; eq_refl; omega; eq_refl; omega; decide; omega; intro b0 c0)
      | (apply GC_seqK; intro K hK)
      | (apply hK; clear hK K)
      | (clear hK K; apply hK; clear hK K)
      | (apply GC_block)
      | (apply GC_region)
      | (apply GL_nil)
      | (apply thenG_normal)
      | (apply thenG_exit)
      | (apply blockG_hit)
      | (apply GC_exit)
      | (apply GC_if_false; eq_refl)
      | (apply GL_on; eq_refl; eq_refl)
      | (apply G_pv; eq_refl; first | exact trivial | omega)
      | (apply G_field; eq_refl)
      | (apply G_ld; eq_refl; (repeat first | exact In.here | apply In.there | apply In.skip); eq_refl)
      | (apply G_cmpF; eq_refl; eq_refl; omega)
      | (apply G_len; eq_refl))
        refine GC_loopK [3, 6, 72, 73] (fun s : Nat × (List Bool × Option Addr × Nat) × (List (HMom × Mom) × Option Addr × Nat) => [(12, .slice s.2.1.2.1 s.2.1.1.length s.2.1.2.2), (11, .slice s.2.2.2.1 s.2.2.1.length s.2.2.2.2), (74, nu s.1)])
          (fun s => stEnt s.1 s.2.1.2.1 s.2.1.2.2 s.2.1.1 ++ .vec encM 4 82 s.2.2.2.1 s.2.2.2.2 s.2.2.1 :: .box p1 163 (rcells c h B1 k1) :: .vec icell 1 3 B1 k1 (ordM c) :: .box b3 73 (tcs t a b) :: .old w none_ :: fam momE s.2.2.1)
          (fun s => s.1 ≤ t.rows.length ∧ s.2.1.1 = stM c t s.1 ∧ s.2.2.1.map (·.2) = runM c t s.1 ∧ (s.1 = 0 → s.2.1 = (t.init, a.1, a.2))) (fun s => t.rows.length - s.1) (0, (t.init, a.1, a.2), ([], some ⟨b0, 0, none⟩, c0)) (by repeat first | exact Pick.nil | (apply Pick.cons; eq_refl)) (by repeat first | exact trivial | refine ⟨rfl, ?_⟩) (by repeat first | exact Wk.nil | exact Wk.refl | (apply Wk.cons; (focus ((repeat first | exact Rem.here | apply Rem.there | apply Rem.skip); done))) | apply Wk.nilv | apply Wk.last | apply Wk.drop) ⟨Nat.zero_le _, rfl, rfl, fun _ => rfl⟩ ?_
        rintro ⟨i, ⟨st, A8, c8⟩, ⟨ps, A9, c9⟩⟩ ⟨hi, hst, hps, h0⟩
        dsimp only at hi hst hps h0 ⊢
        have hpl : ps.length = i := by have := congrArg List.length hps; rw [List.length_map, runM_len] at this; exact this
        have hsl : st.length = c.latches.length := by rw [hst]; exact stM_len F.init i
        rcases Nat.lt_or_ge i t.rows.length with hlt | hge
        · have hrow : RowA w booc 1 A8 st ∨ 0 < i := by
            rcases Nat.eq_zero_or_pos i with h1 | h1
            · have := h0 h1
              simp only [Prod.mk.injEq] at this
              rw [this.1, this.2.1]
              exact .inl hI
            · exact .inr h1
          have hex : ∀ {Γ'' : Mm}, True := fun {_} => trivial
          cases i with
          | zero =>
            have hS : RowA w booc 1 A8 st := hrow.resolve_right (by omega)
            repeat' (first
      | (apply G_call; eq_refl; eq_refl; (apply hv0; exact hlt; exact hst; (repeat first | exact In.here | apply In.there | apply In.skip); (first | (apply Rd.own; (repeat first | exact In.here | apply In.there | apply In.skip); infer_instance) | (apply Rd.old; (repeat first | exact In.here | apply In.there | apply In.skip); assumption) | (apply Rd.oldR; (repeat first | exact In.here | apply In.there | apply In.skip); assumption) | exact Rd.nil | assumption); (repeat first | exact In.here | apply In.there | apply In.skip); (repeat first | exact In.here | apply In.there | apply In.skip)); rintro _ _ ⟨A11, k11, rfl, rfl⟩)
      | (apply G_call; eq_refl; eq_refl; (apply hmo; exact hsl; (repeat first | exact In.here | apply In.there | apply In.skip); (first | (apply Rd.own; (repeat first | exact In.here | apply In.there | apply In.skip); infer_instance) | (apply Rd.old; (repeat first | exact In.here | apply In.there | apply In.skip); assumption) | (apply Rd.oldR; (repeat first | exact In.here | apply In.there | apply In.skip); assumption) | exact Rd.nil | assumption); (repeat first | exact In.here | apply In.there | apply In.skip); (repeat first | exact In.here | apply In.there | apply In.skip)); rintro _ _ ⟨hm, rfl, rfl⟩)
      | (apply G_call; eq_refl; eq_refl; (apply hnx; (repeat first | exact In.here | apply In.there | apply In.skip); (repeat first | exact In.here | apply In.there | apply In.skip); (repeat first | exact In.here | apply In.there | apply In.skip)); rintro _ _ ⟨A12, k12, rfl, rfl⟩)
      | (apply G_app; exact wr_p; eq_refl; eq_refl; (intro A c; (repeat first | exact Upd.here | apply Upd.there | apply Upd.skip)); infer_instance; (repeat first | exact In.here | apply In.there | apply In.skip); exact Dec.one (hm, momM _ _ _); eq_refl; eq_refl; eq_refl; (simp only [List.length_cons, List.length_nil]; omega); decide; intro A13 k13)
      | (apply GC_seqK; intro K hK)
      | (apply hK; clear hK K)
      | (apply GC_block)
      | (apply GC_region)
      | (apply GL_nil)
      | (apply thenG_normal)
      | (apply blockG_normal)
      | (apply GC_skip)
      | (apply GC_if_true; eq_refl)
      | (apply GL_on; eq_refl; eq_refl)
      | (apply G_pv; eq_refl; first | exact trivial | omega)
      | (apply G_rd; eq_refl; (first | (apply Rd.own; (repeat first | exact In.here | apply In.there | apply In.skip); infer_instance) | (apply Rd.old; (repeat first | exact In.here | apply In.there | apply In.skip); assumption) | (apply Rd.oldR; (repeat first | exact In.here | apply In.there | apply In.skip); assumption) | exact Rd.nil | assumption); (case ih => infer_instance); omega; omega; eq_refl)
      | (apply G_cmpT; eq_refl; eq_refl; omega)
      | (apply G_ix; eq_refl; eq_refl; (first | (apply Rd.own; (repeat first | exact In.here | apply In.there | apply In.skip); infer_instance) | (apply Rd.old; (repeat first | exact In.here | apply In.there | apply In.skip); assumption) | (apply Rd.oldR; (repeat first | exact In.here | apply In.there | apply In.skip); assumption) | exact Rd.nil | assumption); (first | eq_refl | omega); omega; omega)
      | (apply G_new (fun b => .slice (some ⟨b, 0, none⟩) 1 1); eq_refl; (intro _; apply buildS75_1 <;> eq_refl); intro _))
            refine ⟨(0 + 1, (_, _, _), (_, _, _)), (by repeat first | exact trivial | refine ⟨rfl, ?_⟩), ?_, ⟨hlt, ?_, ?_, fun h => by simp at h⟩, by simp only; omega⟩
            · dsimp only
              rw [fam_snoc]
              exact (by repeat first | exact Wk.nil | exact Wk.refl | (apply Wk.cons; (focus ((repeat first | exact Rem.here | apply Rem.there | apply Rem.skip); done))) | apply Wk.nilv | apply Wk.last | apply Wk.drop)
            · dsimp only
              first | (rw [hst]; done) | (rw [hst]; rfl)
            · dsimp only
              rw [runM_succ c t 0, List.map_append, hps, ← hst]
              first | done | rfl
          | succ i =>
            repeat' (first
      | (apply G_call; eq_refl; eq_refl; (apply hv0; exact hlt; exact hst; (repeat first | exact In.here | apply In.there | apply In.skip); (first | (apply Rd.own; (repeat first | exact In.here | apply In.there | apply In.skip); infer_instance) | (apply Rd.old; (repeat first | exact In.here | apply In.there | apply In.skip); assumption) | (apply Rd.oldR; (repeat first | exact In.here | apply In.there | apply In.skip); assumption) | exact Rd.nil | assumption); (repeat first | exact In.here | apply In.there | apply In.skip); (repeat first | exact In.here | apply In.there | apply In.skip)); rintro _ _ ⟨A11, k11, rfl, rfl⟩)
      | (apply G_call; eq_refl; eq_refl; (apply hmo; exact hsl; (repeat first | exact In.here | apply In.there | apply In.skip); (first | (apply Rd.own; (repeat first | exact In.here | apply In.there | apply In.skip); infer_instance) | (apply Rd.old; (repeat first | exact In.here | apply In.there | apply In.skip); assumption) | (apply Rd.oldR; (repeat first | exact In.here | apply In.there | apply In.skip); assumption) | exact Rd.nil | assumption); (repeat first | exact In.here | apply In.there | apply In.skip); (repeat first | exact In.here | apply In.there | apply In.skip)); rintro _ _ ⟨hm, rfl, rfl⟩)
      | (apply G_call; eq_refl; eq_refl; (apply hnx; (repeat first | exact In.here | apply In.there | apply In.skip); (repeat first | exact In.here | apply In.there | apply In.skip); (repeat first | exact In.here | apply In.there | apply In.skip)); rintro _ _ ⟨A12, k12, rfl, rfl⟩)
      | (apply G_app; exact wr_p; eq_refl; eq_refl; (intro A c; (repeat first | exact Upd.here | apply Upd.there | apply Upd.skip)); infer_instance; (repeat first | exact In.here | apply In.there | apply In.skip); exact Dec.one (hm, momM _ _ _); eq_refl; eq_refl; eq_refl; (simp only [List.length_cons, List.length_nil]; omega); decide; intro A13 k13)
      | (apply GC_seqK; intro K hK)
      | (apply hK; clear hK K)
      | (apply GC_block)
      | (apply GC_region)
      | (apply GL_nil)
      | (apply thenG_normal)
      | (apply blockG_normal)
      | (apply GC_skip)
      | (apply GC_if_true; eq_refl)
      | (apply GL_on; eq_refl; eq_refl)
      | (apply G_pv; eq_refl; first | exact trivial | omega)
      | (apply G_rd; eq_refl; (first | (apply Rd.own; (repeat first | exact In.here | apply In.there | apply In.skip); infer_instance) | (apply Rd.old; (repeat first | exact In.here | apply In.there | apply In.skip); assumption) | (apply Rd.oldR; (repeat first | exact In.here | apply In.there | apply In.skip); assumption) | exact Rd.nil | assumption); (case ih => infer_instance); omega; omega; eq_refl)
      | (apply G_cmpT; eq_refl; eq_refl; omega)
      | (apply G_ix; eq_refl; eq_refl; (first | (apply Rd.own; (repeat first | exact In.here | apply In.there | apply In.skip); infer_instance) | (apply Rd.old; (repeat first | exact In.here | apply In.there | apply In.skip); assumption) | (apply Rd.oldR; (repeat first | exact In.here | apply In.there | apply In.skip); assumption) | exact Rd.nil | assumption); (first | eq_refl | omega); omega; omega)
      | (apply G_new (fun b => .slice (some ⟨b, 0, none⟩) 1 1); eq_refl; (intro _; apply buildS75_1 <;> eq_refl); intro _))
            refine ⟨(i + 1 + 1, (_, _, _), (_, _, _)), (by repeat first | exact trivial | refine ⟨rfl, ?_⟩), ?_, ⟨hlt, ?_, ?_, fun h => by simp at h⟩, by simp only; omega⟩
            · dsimp only
              rw [fam_snoc]
              exact (by repeat first | exact Wk.nil | exact Wk.refl | (apply Wk.cons; (focus ((repeat first | exact Rem.here | apply Rem.there | apply Rem.skip); done))) | apply Wk.nilv | apply Wk.last | apply Wk.drop)
            · dsimp only
              first | (rw [hst]; done) | (rw [hst]; rfl)
            · dsimp only
              rw [runM_succ c t (i + 1), List.map_append, hps, ← hst]
              first | done | rfl
        · obtain rfl : i = t.rows.length := by omega
          repeat' (first
      | (apply GC_seqK; intro K hK)
      | (apply hK; clear hK K)
      | (clear hK K; apply hK; clear hK K)
      | (apply GC_region)
      | (apply GL_nil)
      | (apply thenG_normal)
      | (apply thenG_exit)
      | (apply blockG_hit)
      | (apply GC_ret)
      | (apply GC_exit)
      | (apply GC_if_false; eq_refl)
      | (apply retG2; eq_refl; eq_refl)
      | (apply GL_on; eq_refl; eq_refl)
      | (apply G_pv; eq_refl; first | exact trivial | omega)
      | (apply G_cmpF; eq_refl; eq_refl; omega))
          refine ⟨_ :: fam momE ps, ?_, ps, A9, c9, by rw [runE_fit he F], by rw [e1]; exact hps, rfl⟩
          refine Wk.trans ⟨fun w M => M.right, fun k hk => owns_append.2 (.inr hk)⟩ ?_
          exact (by repeat first | exact Wk.nil | exact Wk.refl | (apply Wk.cons; (focus ((repeat first | exact Rem.here | apply Rem.there | apply Rem.skip); done))) | apply Wk.nilv | apply Wk.last | apply Wk.drop)
    · have hnF : ¬ Fit c t := fun hf => h1 ⟨hf.pos, hf.few, hf.lo, hf.hi, hf.init⟩
      have e1 : runsM c t = [] := if_neg (by rw [runE_not he hnF]; decide)
      unfold RunR
      rw [runE_not he hnF, e1]
      repeat' (first
      | (apply G_call; eq_refl; eq_refl; (apply hrd; (repeat first | exact In.here | apply In.there | apply In.skip)); rintro _ _ (⟨he', rfl, rfl⟩ | ⟨_, p1, B1, k1, rfl, rfl⟩); (exact absurd he he'))
      | (apply GC_seqK; intro K hK)
      | (apply hK; clear hK K)
      | (apply GC_region)
      | (apply GL_nil)
      | (apply thenG_normal)
      | (apply thenG_ret)
      | (apply GC_ret)
      | (apply GC_skip)
      | (apply GC_if_true; eq_refl)
      | (apply GC_if_false; eq_refl)
      | (apply retG2; eq_refl; eq_refl)
      | (apply GL_on; eq_refl; eq_refl)
      | (apply GL_off; eq_refl; eq_refl)
      | (apply G_pv; eq_refl; first | exact trivial | omega)
      | (apply G_field; eq_refl)
      | (apply G_ld; eq_refl; (repeat first | exact In.here | apply In.there | apply In.skip); eq_refl)
      | (apply G_ldW; eq_refl; (repeat first | exact In.here | apply In.there | apply In.skip); eq_refl)
      | (apply G_cmpT; eq_refl; eq_refl; omega)
      | (apply G_cmpF; eq_refl; eq_refl; omega)
      | (apply G_cmp; eq_refl; eq_refl; all_goals intro _)
      | (apply G_len; eq_refl)
      | (apply G_box; eq_refl; eq_refl; intro _))
      all_goals first
        | exact ⟨[.vec encM 4 82 none 0 []], (by repeat first | exact Wk.nil | exact Wk.refl | (apply Wk.cons; (focus ((repeat first | exact Rem.here | apply Rem.there | apply Rem.skip); done))) | apply Wk.nilv | apply Wk.last | apply Wk.drop), [], none, 0, rfl, rfl, rfl⟩
        | (exfalso; omega)
  · have e1 : runsM c t = [] := if_neg (by rw [runE_look he]; exact he)
    unfold RunR
    rw [runE_look he, e1]
    repeat' (first
      | (apply G_call; eq_refl; eq_refl; (apply hrd; (repeat first | exact In.here | apply In.there | apply In.skip)); rintro _ _ (⟨_, rfl, rfl⟩ | ⟨he', p1, B1, k1, rfl, rfl⟩); rotate_left; (exact absurd he' he))
      | (apply GC_seqK; intro K hK)
      | (apply hK; clear hK K)
      | (apply GC_region)
      | (apply GL_nil)
      | (apply thenG_normal)
      | (apply thenG_ret)
      | (apply GC_ret)
      | (apply GC_if_true; eq_refl)
      | (apply retG2; eq_refl; eq_refl)
      | (apply GL_on; eq_refl; eq_refl)
      | (apply G_pv; eq_refl; first | exact trivial | omega)
      | (apply G_ldW; eq_refl; (repeat first | exact In.here | apply In.there | apply In.skip); eq_refl)
      | (apply G_cmpT; eq_refl; eq_refl; omega)
      | (apply G_box; eq_refl; eq_refl; intro _))
    exact ⟨[.vec encM 4 82 none 0 []], (by repeat first | exact Wk.nil | exact Wk.refl | (apply Wk.cons; (focus ((repeat first | exact Rem.here | apply Rem.there | apply Rem.skip); done))) | apply Wk.nilv | apply Wk.last | apply Wk.drop), [], none, 0, rfl, rfl, rfl⟩
end SC
end Go.Proofs.Ytkndegjodnciaaa
end
section
/- trestlelaw07: works. -/
set_option linter.unusedVariables false
set_option linter.unusedSimpArgs false
namespace Go.Proofs.Ytkndegjodnciaaa
namespace SC
open Go.Proofs
def cWk : Circ := ⟨1, [], [(2, 3, 0)], [], [2], [], [], [], [], [], []⟩
theorem cWk_sizes : sizesM cWk = 0 := by
  unfold sizesM
  rw [if_neg (by simp [cWk]), if_neg]
  simp [cWk, Circ.lens, sumW, sumL]; decide
theorem cWk_defs : definesM cWk (T0 cWk) = ((0, 0), [(0, 0), (2, 0)]) := by decide
theorem cWk_tab : tabM cWk = [(0, 0), (2, 0)] := by unfold tabM; rw [cWk_defs]
theorem cWk_uses : usesM cWk (tabM cWk) = (0, 0) := by rw [cWk_tab]; decide
theorem cWk_all : All 0 (gateB (tabM cWk) cWk) [] := ⟨.nil, fun x hx => by have := hx.rg; unfold rg at this; omega⟩
theorem cWk_look : (lookM cWk).2 = 0 := by
  have hc : cycM cWk.ands.length (gateB (tabM cWk) cWk) = -1 := cycM_eq ⟨[], cWk_all, .inl ⟨rfl, rfl⟩⟩
  unfold lookM
  rw [cWk_sizes, cWk_defs, cWk_uses, hc]
  simp [cWk, goSym, goCom]
theorem cWk_ord : ordM cWk = [] := ordM_eq cWk_all
def tWk (h1 h2 : Hdl) : Trc := ⟨[false], [(h1, []), (h2, [])], -1⟩
theorem tWk_fit (h1 h2 : Hdl) : Fit cWk (tWk h1 h2) := ⟨rfl, by simp [tWk], by simp [tWk], by simp [tWk], by simp [tWk], by simp [tWk, cWk]⟩
def mWk0 : Mom := ⟨[false], true, [], []⟩
def mWk1 : Mom := ⟨[true], true, [0], []⟩
theorem cWk_runs (h1 h2 : Hdl) : runsM cWk (tWk h1 h2) = [mWk0, mWk1] := by
  unfold runsM
  rw [if_pos (runE_fit cWk_look (tWk_fit h1 h2))]
  show [momM cWk [false] (valM cWk [false] []), momM cWk (nxtM cWk (valM cWk [false] [])) (valM cWk (nxtM cWk (valM cWk [false] [])) [])] = _
  unfold valM
  rw [cWk_ord]
  rfl
theorem cWk_sane : cWk.Sane := ⟨by simp [cWk], by simp [cWk], by simp [cWk], by simp [cWk], by simp [cWk], by simp [cWk]⟩
theorem cWk_okay : cWk.Okay := ⟨by simp [cWk, Circ.lens], by simp [cWk], (by intro x hx; simp [cWk] at hx; subst hx; simp [TriFits, fit64, fits]), by simp [cWk], by simp [cWk]⟩
theorem cWk_fits : cWk.Fits := ⟨by simp [cWk], by simp [cWk], by simp [cWk], by simp [cWk], by simp [cWk], by simp [cWk], by simp [cWk], by simp [cWk], by simp [cWk], by simp [cWk], by simp [cWk]⟩
def hWk (a b : Nat) : Hd := fun | 2 => (some ⟨a, 0, none⟩, 1) | 4 => (some ⟨b, 0, none⟩, 1) | _ => (none, 0)
theorem cWk_in {w : World} {a b : Nat} (ha : Blk w a 70 [nu 2, nu 3, nu 0]) (hb : Blk w b 3 [nu 2]) : CirIn w cWk (hWk a b) hNil :=
  ⟨⟨RowA.emp, RowA.blk (l := [(2, 3, 0)]) tlen ha, RowA.emp, RowA.blk (l := [2]) ilen hb, RowA.emp, fun k hk => absurd hk (Nat.not_lt_zero _), fun k hk => absurd hk (Nat.not_lt_zero _), RowA.emp, RowA.emp, RowA.emp, RowA.emp⟩, cWk_sane, cWk_okay, cWk_fits⟩
theorem tWk_in {w : World} {a b c d : Nat} (ha : Blk w a 4 [.bool false]) (hd : Blk w d 62 [.slice (some ⟨b, 0, none⟩) 0 0, .slice (some ⟨c, 0, none⟩) 0 0]) : TrcIn w (tWk (some ⟨b, 0, none⟩, 0) (some ⟨c, 0, none⟩, 0)) (some ⟨a, 0, none⟩, 1) (some ⟨d, 0, none⟩, 2) :=
  ⟨RowA.blk (l := [false]) (fun _ => rfl) ha, RowA.blk (l := [(((some ⟨b, 0, none⟩, 0) : Hdl), ([] : List Bool)), ((some ⟨c, 0, none⟩, 0), [])]) (fun _ => rfl) hd, (fun p hp => by simp [tWk] at hp; rcases hp with rfl | rfl <;> exact RowA.emp), (fun h => by cases h), (fun h => by cases h), (fun p hp h => by simp [tWk] at hp; rcases hp with rfl | rfl <;> cases h), (by simp [tWk]), (by simp [tWk]), (fun p hp => by simp [tWk] at hp; rcases hp with rfl | rfl <;> simp), (by simp [tWk, fits])⟩
attribute [local irreducible] WC WL WX WS WO OX Does DoesU Enters CV Pure thenQ blockQ retQ Wants retQC GC GL GS GX RdB thenG blockG retG Rd At CVN CVM
set_option maxRecDepth 100000
theorem worksSim_cv {w : World} : CVN Try.prog 48 [] w fun v N => N = [] ∧ v = .bool true := by
  have hrun : ∀ Γ a b x y z u, In Γ (.box a 70 [nu 2, nu 3, nu 0]) → In Γ (.box b 3 [nu 2]) → In Γ (.box x 4 [.bool false]) → In Γ (.box u 62 [.slice (some ⟨y, 0, none⟩) 0 0, .slice (some ⟨z, 0, none⟩) 0 0]) → ∀ w', Mem w' Γ →
      CVN Try.prog 42 [.agg (ccells cWk (hWk a b)).toArray, .agg (tcs (tWk (some ⟨y, 0, none⟩, 0) (some ⟨z, 0, none⟩, 0)) (some ⟨x, 0, none⟩, 1) (some ⟨u, 0, none⟩, 2)).toArray] w' fun v N => ∃ (p q : HMom) (A : Option Addr) (k : Nat), v = .tuple #[.slice A 2 k, nu 0] ∧ N = .vec encM 4 82 A k [(p, mWk0), (q, mWk1)] :: fam momE [(p, mWk0), (q, mWk1)] := fun Γ a b x y z u h1 h2 h3 h4 w' M => by
    refine (Run_cv (cWk_in (h1.box M) (h2.box M)) (tWk_in (c := z) (h3.box M) (h4.box M))).mono ?_
    rintro v N ⟨ps, A, k, rfl, hps, rfl⟩
    rw [cWk_runs] at hps
    match ps, hps with
    | [(p, m), (q, m')], hps =>
      simp only [List.map_cons, List.map_nil, List.cons.injEq, and_true] at hps
      obtain ⟨rfl, rfl⟩ := hps
      exact ⟨p, q, A, k, by rw [runE_fit cWk_look (tWk_fit _ _)]; rfl, rfl⟩
    | [], hps => simp at hps
    | [_], hps => simp at hps
    | _ :: _ :: _ :: _, hps => simp at hps
  refine CVN.enter 63 [0] Try.func48 rfl rfl rfl (by decide) rfl ?_
  repeat' (first
      | (apply G_cmpT; eq_refl; eq_refl; (exact rfl))
      | (apply G_ix; eq_refl; eq_refl; (first | (apply Rd.own; (repeat first | exact In.here | apply In.there | apply In.skip); infer_instance) | (apply Rd.old; (repeat first | exact In.here | apply In.there | apply In.skip); assumption) | (apply Rd.oldR; (repeat first | exact In.here | apply In.there | apply In.skip); assumption) | exact Rd.nil | assumption); eq_refl; (focus simp); (exact (show (0 : Int) < ((1 : Nat) : Int) by decide)))
      | (apply G_rd; eq_refl; (first | (apply Rd.own; (repeat first | exact In.here | apply In.there | apply In.skip); infer_instance) | (apply Rd.old; (repeat first | exact In.here | apply In.there | apply In.skip); assumption) | (apply Rd.oldR; (repeat first | exact In.here | apply In.there | apply In.skip); assumption) | exact Rd.nil | assumption); (case ih => infer_instance); (focus simp); (exact (show (0 : Int) < ((1 : Nat) : Int) by decide)); eq_refl)
      | (apply G_rdF; eq_refl; (first | (apply Rd.own; (repeat first | exact In.here | apply In.there | apply In.skip); infer_instance) | (apply Rd.old; (repeat first | exact In.here | apply In.there | apply In.skip); assumption) | (apply Rd.oldR; (repeat first | exact In.here | apply In.there | apply In.skip); assumption) | exact Rd.nil | assumption); (case ih => infer_instance); (focus simp); (focus simp); eq_refl)
      | (apply G_call; eq_refl; eq_refl; (apply hrun; (repeat first | exact In.here | apply In.there | apply In.skip); (repeat first | exact In.here | apply In.there | apply In.skip); (repeat first | exact In.here | apply In.there | apply In.skip); (repeat first | exact In.here | apply In.there | apply In.skip)); rintro _ _ ⟨p, q, A, k, rfl, rfl⟩)
      | (apply GC_seqK; intro K hK)
      | (apply hK; clear hK K)
      | (apply GC_region)
      | (apply GL_nil)
      | (apply thenG_normal)
      | (apply GC_ret)
      | (apply retG1; eq_refl)
      | (apply GL_on; eq_refl; eq_refl)
      | (apply G_pv; eq_refl; first | exact trivial | omega)
      | (apply G_fieldP; eq_refl)
      | (apply G_ldW; eq_refl; (repeat first | exact In.here | apply In.there | apply In.skip); eq_refl)
      | (apply G_len; eq_refl)
      | (apply G_ix; eq_refl; eq_refl; (first | (apply Rd.own; (repeat first | exact In.here | apply In.there | apply In.skip); infer_instance) | (apply Rd.old; (repeat first | exact In.here | apply In.there | apply In.skip); assumption) | (apply Rd.oldR; (repeat first | exact In.here | apply In.there | apply In.skip); assumption) | exact Rd.nil | assumption); (first | eq_refl | omega); omega; omega)
      | (apply G_alloc; eq_refl; intro _)
      | (apply G_stW; (first | exact wr_p | kernel_rfl); eq_refl; eq_refl; eq_refl; eq_refl; (repeat first | exact Upd.here | apply Upd.there | apply Upd.skip); eq_refl)
      | (apply GX_pure; apply build70_0_1 <;> eq_refl)
      | (apply GX_pure; apply build51_0_2_4 <;> eq_refl)
      | (apply GX_pure; apply build73_0_1_2 <;> eq_refl)
      | (apply G_new (fun b => .slice (some ⟨b, 0, none⟩) 1 1); eq_refl; (intro _; apply buildS46_1 <;> eq_refl); intro _)
      | (apply G_new (fun b => .slice (some ⟨b, 0, none⟩) 1 1); eq_refl; (intro _; apply buildS45_1 <;> eq_refl); intro _)
      | (apply G_new (fun b => .slice (some ⟨b, 0, none⟩) 1 1); eq_refl; (intro _; apply buildS62_1 <;> eq_refl); intro _)
      | (apply G_new (fun b => .slice (some ⟨b, 0, none⟩) 0 0); eq_refl; (intro _; apply buildS62_0); intro _)
      | (apply G_new (fun b => .slice (some ⟨b, 0, none⟩) 2 2); eq_refl; (intro _; apply buildS71_2 <;> eq_refl); intro _))
  exact ⟨[], (by repeat first | exact Wk.nil | exact Wk.refl | (apply Wk.cons; (focus ((repeat first | exact Rem.here | apply Rem.there | apply Rem.skip); done))) | apply Wk.nilv | apply Wk.last | apply Wk.drop), rfl, rfl⟩
end SC
end Go.Proofs.Ytkndegjodnciaaa
end
section
/- ShapeChecks: the walk. -/
set_option linter.unusedVariables false
set_option linter.unusedSimpArgs false
namespace Go.Proofs.Ytkndegjodnciaaa
namespace SC
open Go.Proofs
theorem Circ.Fits.lens1 {c : Circ} (hf : c.Fits) : ∀ n ∈ c.lens, n + 1 ≤ 9223372036854775807 := by
  intro n hn
  have h1 := hf.inputs
  have h2 := hf.latches
  have h3 := hf.outputs
  have h4 := hf.bads
  have h5 := hf.constraints
  have h6 := hf.justice
  have h7 := hf.fairness
  have h8 := hf.ands
  have h9 := hf.symbols
  have h10 := hf.comments
  simp only [Circ.lens, List.mem_cons, List.not_mem_nil, or_false] at hn
  rcases hn with rfl | rfl | rfl | rfl | rfl | rfl | rfl | rfl | rfl | rfl <;> omega
attribute [local irreducible] WC WL WX WS WO OX Does DoesU Enters CV Pure thenQ blockQ retQ Wants retQC
set_option maxRecDepth 100000
end SC
end Go.Proofs.Ytkndegjodnciaaa
end
section
/- trestlelaw07: SimStarts, SimSteps: the walks. -/
set_option linter.unusedVariables false
set_option linter.unusedSimpArgs false
namespace Go.Proofs.Ytkndegjodnciaaa
namespace SC
open Go.Proofs
/-- A lent circuit, as an entry. -/
def lentX (base : Nat) (c : Circ) (h js : Hd) : EntX where
  own := fun k => ∃ i, (lentRow c h js i).v.ownBlock = some k
  ok := fun w => CirLent w base c h js
  lt := fun w H k ⟨i, hi⟩ => (World.ownsRow.lt (H i) k hi).2
  keep := fun w w' S H hc hn => fun i => own_chg (H i) hc fun k hk => hn k ⟨i, hk⟩
def LendR (c : Circ) (v : Value) (N : Mm) : Prop := ∃ base h' js', v = .agg (ccells c h').toArray ∧ N = [.any (lentX base c h' js')]
theorem LendG {w : World} {c : Circ} {h js : Hd} (H : CirAt w c h js) (hf : c.Fits1) (hn : Nils h js) : CVN Try.prog 23 [.agg (ccells c h).toArray] w (LendR c) := CV.mono (lendCircuit_cv H hf hn) fun v w' ⟨h', js', e1, e2, hc⟩ =>
  ⟨[.any (lentX w.heap.size c h' js')], Mem.join (.one e2) (.one hc) fun k ⟨E, hE, h1⟩ ⟨F, hF, h2⟩ => by
    simp only [List.mem_singleton] at hE hF
    subst hE hF
    obtain ⟨i, hi⟩ := h1
    have := (World.ownsRow.lt (e2 i) k hi).1
    have := h2.1
    omega, w.heap.size, h', js', e1, rfl⟩
/-- What comes in: a circuit, with its reach. -/
structure CirGot (w : World) (c : Circ) (h js : Hd) : Prop extends CirIn w c h js where
  fits1 : c.Fits1
  nils : Nils h js
theorem CirGot.chg {w w' : World} {c : Circ} {h js : Hd} (H : CirGot w c h js) (hc : Chg w w' none_) : CirGot w' c h js := ⟨H.toCirIn.chg hc, H.fits1, H.nils⟩
theorem In.lent {Γ : Mm} {w w0 : World} {base : Nat} {c : Circ} {h js h' js' : Hd} (H : CirIn w0 c h js) (hi : In Γ (.any (lentX base c h' js'))) (M : Mem w Γ) : CirIn w c h' js' := ⟨CirLent.at (hi.ok M), H.sane, H.okay, H.fits⟩
theorem KeptG {Γ : Mm} {w0 w : World} {base : Nat} {c : Circ} {h js h' js' : Hd} (H : CirGot w0 c h js) (hi : In Γ (.any (lentX base c h' js'))) (ho : In Γ (.old w0 none_)) (M : Mem w Γ) : CVN Try.prog 30 [.agg (ccells c h').toArray, .agg (ccells c h).toArray] w fun v N => N = [] ∧ v = .bool true :=
  CVN.of (keptCircuit_cv (hi.ok M) (H.at_.chg (ho.old M)) H.okay H.fits1.lens1) fun v w' h => ⟨h.2, h.1⟩
attribute [local irreducible] WC WL WX WS WO OX Does DoesU Enters CV Pure thenQ blockQ retQ Wants retQC GC GL GS GX RdB thenG blockG retG Rd At gt CVN CVM
set_option maxRecDepth 100000
end SC
end Go.Proofs.Ytkndegjodnciaaa
end
section
/- trestlelaw07: SimSteps: the walk. -/
set_option linter.unusedVariables false
set_option linter.unusedSimpArgs false
namespace Go.Proofs.Ytkndegjodnciaaa
namespace SC
open Go.Proofs
theorem vals_le {w : World} {c : Circ} {h js : Hd} (H : CirIn w c h js) (s r : List Bool) : (valsM c s r).length ≤ 16385 := by
  unfold valsM
  split
  · rename_i he
    have R := right_of H.at_ H.sane (stepE_zero he).1
    have := R.m1
    rw [valM_len]
    omega
  · simp
theorem next_le {w : World} {c : Circ} {h js : Hd} (H : CirIn w c h js) (s r : List Bool) : (nextM c s r).length ≤ 16384 := by
  unfold nextM
  split
  · rename_i he
    have R := right_of H.at_ H.sane (stepE_zero he).1
    have := R.nLat
    unfold nxtM
    rw [List.length_map]
    omega
  · simp
theorem G_callM2 {P : Program} {n : Nat} {all : List Oper} {K : Env → Mm → Prop} {m : Md} {d : Option Tmp} {e : Env} {Γ Γ' : Mm} {ty : TypeId} {f : FuncId} [F : Go.Proofs.Ytkndegjodnciaaa.SC.Fn P f] {args : Array Operand} {ats : Array TypeId} {vs : List Value} {C : Mm} {R : Value → Mm → Prop} (hm : wrOk all m = true) (h : evs e args.toList = some vs) (hc : ∀ w, Mem w C → CVM P f vs w C R) (hC : Rems Γ C Γ') (hr : ∀ v N, R v N → GN P n all K m (push d v e) (N ++ Γ')) :
    GX P n all K m d (.call { callee := .value (.func f), args := args, argTypes := ats }) ty e Γ :=
  G_callM hm h hC (fun w M => hc w (Mem.takes hC M).left) hr
attribute [local irreducible] WC WL WX WS WO OX Does DoesU Enters CV Pure thenQ blockQ retQ Wants retQC GC GL GS GX RdB thenG blockG retG Rd At gt CVN CVM
set_option maxRecDepth 100000
theorem simSteps_cv {w : World} {c : Circ} {h js : Hd} {S T : Option Addr} {k k2 : Nat} {s r : List Bool} (H : CirGot w c h js) (hS : RowA w booc 1 S s) (hk : S = none → k = 0) (hn : s.length ≤ 140737488351232) (hT : RowA w booc 1 T r) (hk2 : T = none → k2 = 0) (hn2 : r.length ≤ 140737488351232) :
    CVN Try.prog 12 [.agg (ccells c h).toArray, .slice S s.length k, .slice T r.length k2] w fun v N => N = [] ∧ v = .bool true := by
  have hL : ∀ Γ, In Γ (.old w none_) → ∀ w', Mem w' Γ → CVN Try.prog 23 [.agg (ccells c h).toArray] w' (LendR c) := fun Γ hi w' M => LendG (H.at_.chg (hi.old M)) H.fits1 H.nils
  have hl : ∀ Γ, In Γ (.old w none_) → ∀ w', Mem w' Γ → CVN Try.prog 50 [.slice S s.length k] w' _ := fun Γ hi w' M => lent_cv (hS.chg (hi.old M)) hk (by omega)
  have hl2 : ∀ Γ, In Γ (.old w none_) → ∀ w', Mem w' Γ → CVN Try.prog 50 [.slice T r.length k2] w' _ := fun Γ hi w' M => lent_cv (hT.chg (hi.old M)) hk2 (by omega)
  have lv1 := vals_le H.toCirIn s r
  have lv2 := next_le H.toCirIn s r
  have p1 : ∀ Γ base h' js' A k' B k4, In Γ (.any (lentX base c h' js')) → In Γ (.vec booc 1 4 A k' s) → In Γ (.vec booc 1 4 B k4 r) → ∀ w', Mem w' Γ → CVN Try.prog 53 [.agg (ccells c h').toArray, .slice A s.length k', .slice B r.length k4] w' _ := fun Γ base h' js' A k' B k4 hi hv hv2 w' M => ValuesP_cv (In.lent H.toCirIn hi M) (hv.row M) (hv2.row M)
  have p2 : ∀ Γ base h' js' A k' B k4, In Γ (.any (lentX base c h' js')) → In Γ (.vec booc 1 4 A k' s) → In Γ (.vec booc 1 4 B k4 r) → ∀ w', Mem w' Γ → CVN Try.prog 49 [.agg (ccells c h').toArray, .slice A s.length k', .slice B r.length k4] w' _ := fun Γ base h' js' A k' B k4 hi hv hv2 w' M => NextP_cv (In.lent H.toCirIn hi M) (hv.row M) (hv2.row M)
  have p3 : ∀ Γ base h' js' A k' B k4, In Γ (.any (lentX base c h' js')) → In Γ (.vec booc 1 4 A k' s) → In Γ (.vec booc 1 4 B k4 r) → ∀ w', Mem w' Γ → CVN Try.prog 56 [.agg (ccells c h').toArray, .slice A s.length k', .slice B r.length k4] w' _ := fun Γ base h' js' A k' B k4 hi hv hv2 w' M => HoldsP_cv (In.lent H.toCirIn hi M) (hv.row M) (hv2.row M)
  have r1 : ∀ Γ, In Γ (.old w none_) → ∀ w', Mem w' Γ → CVN Try.prog 54 [.agg (ccells c h).toArray, .slice S s.length k, .slice T r.length k2] w' _ := fun Γ hi w' M => Values_cv (H.toCirIn.chg (hi.old M)) (hS.chg (hi.old M)) (hT.chg (hi.old M))
  have r2 : ∀ Γ, In Γ (.old w none_) → ∀ w', Mem w' Γ → CVN Try.prog 55 [.agg (ccells c h).toArray, .slice S s.length k, .slice T r.length k2] w' _ := fun Γ hi w' M => Next_cv (H.toCirIn.chg (hi.old M)) (hS.chg (hi.old M)) (hT.chg (hi.old M))
  have r3 : ∀ Γ, In Γ (.old w none_) → ∀ w', Mem w' Γ → CVN Try.prog 57 [.agg (ccells c h).toArray, .slice S s.length k, .slice T r.length k2] w' _ := fun Γ hi w' M => Holds_cv (H.toCirIn.chg (hi.old M)) (hS.chg (hi.old M)) (hT.chg (hi.old M))
  have h3 : ∀ Γ base h' js', In Γ (.any (lentX base c h' js')) → In Γ (.old w none_) → ∀ w', Mem w' Γ → CVN Try.prog 30 [.agg (ccells c h').toArray, .agg (ccells c h).toArray] w' _ := fun Γ base h' js' hi ho w' M => KeptG H hi ho M
  have h4 : ∀ Γ A B k' k4 (l : List Bool), l.length ≤ 9223372036854775807 → Rd Γ booc 1 A l → Rd Γ booc 1 B l → ∀ w', Mem w' Γ → CVN Try.prog 46 [.slice A l.length k', .slice B l.length k4] w' fun v N => N = [] ∧ v = .bool true := fun Γ A B k' k4 l hl ha hb w' M => (sameBools_cv (ha.at M) (hb.at M) hl hl).mono fun v N ⟨e1, e2⟩ => ⟨e1, by rw [e2, decide_eq_true rfl]⟩
  have h5 : ∀ w', CVN Try.prog 48 [] w' _ := fun w' => worksSim_cv
  have h6 : ∀ (A : Option Addr) (k' : Nat) (l : List Bool), l.length ≤ 9223372036854775806 → ∀ w', Mem w' [.vec booc 1 4 A k' l] → CVM Try.prog 45 [.slice A l.length k'] w' [.vec booc 1 4 A k' l] _ := fun A k' l hl w' M => spoilBools_cv M hl
  unfold ValsR at p1 r1
  unfold NextR at p2 r2
  refine CVN.enter 134 [6] Try.func12 rfl rfl rfl (by decide) rfl ?_
  generalize valsM c s r = va at *
  generalize nextM c s r = vb at *
  generalize holdsM c s r = β at *
  generalize stepE c s r = ε at *
  cases β
  all_goals
    repeat' (first
      | (apply G_call; eq_refl; eq_refl; (apply hL; (repeat first | exact In.here | apply In.there | apply In.skip)); rintro _ _ ⟨base, h', js', rfl, rfl⟩)
      | (apply G_call; eq_refl; eq_refl; (apply hl; (repeat first | exact In.here | apply In.there | apply In.skip)); rintro _ _ ⟨A1, k1, rfl, rfl⟩)
      | (apply G_call; eq_refl; eq_refl; (apply hl2; (repeat first | exact In.here | apply In.there | apply In.skip)); rintro _ _ ⟨A1, k1, rfl, rfl⟩)
      | (apply G_call; eq_refl; eq_refl; (apply p1; (repeat first | exact In.here | apply In.there | apply In.skip); (repeat first | exact In.here | apply In.there | apply In.skip); (repeat first | exact In.here | apply In.there | apply In.skip)); rintro _ _ ⟨A1, k1, rfl, rfl⟩)
      | (apply G_call; eq_refl; eq_refl; (apply p2; (repeat first | exact In.here | apply In.there | apply In.skip); (repeat first | exact In.here | apply In.there | apply In.skip); (repeat first | exact In.here | apply In.there | apply In.skip)); rintro _ _ ⟨A1, k1, rfl, rfl⟩)
      | (apply G_call; eq_refl; eq_refl; (apply p3; (repeat first | exact In.here | apply In.there | apply In.skip); (repeat first | exact In.here | apply In.there | apply In.skip); (repeat first | exact In.here | apply In.there | apply In.skip)); rintro _ _ ⟨rfl, rfl⟩)
      | (apply G_call; eq_refl; eq_refl; (apply r1; (repeat first | exact In.here | apply In.there | apply In.skip)); rintro _ _ ⟨A1, k1, rfl, rfl⟩)
      | (apply G_call; eq_refl; eq_refl; (apply r2; (repeat first | exact In.here | apply In.there | apply In.skip)); rintro _ _ ⟨A1, k1, rfl, rfl⟩)
      | (apply G_call; eq_refl; eq_refl; (apply r3; (repeat first | exact In.here | apply In.there | apply In.skip)); rintro _ _ ⟨rfl, rfl⟩)
      | (apply G_call; eq_refl; eq_refl; (apply h3; (repeat first | exact In.here | apply In.there | apply In.skip); (repeat first | exact In.here | apply In.there | apply In.skip)); rintro _ _ ⟨rfl, rfl⟩)
      | (apply G_call; eq_refl; eq_refl; (apply h4; omega; (first | (apply Rd.own; (repeat first | exact In.here | apply In.there | apply In.skip); infer_instance) | (apply Rd.old; (repeat first | exact In.here | apply In.there | apply In.skip); assumption) | (apply Rd.oldR; (repeat first | exact In.here | apply In.there | apply In.skip); assumption) | exact Rd.nil | assumption); (first | (apply Rd.own; (repeat first | exact In.here | apply In.there | apply In.skip); infer_instance) | (apply Rd.old; (repeat first | exact In.here | apply In.there | apply In.skip); assumption) | (apply Rd.oldR; (repeat first | exact In.here | apply In.there | apply In.skip); assumption) | exact Rd.nil | assumption)); rintro _ _ ⟨rfl, rfl⟩)
      | (apply G_call; eq_refl; eq_refl; (exact fun w' _ => h5 w'); rintro _ _ ⟨rfl, rfl⟩)
      | (apply G_callM2; exact wr_p; eq_refl; (apply h6; omega); (repeat first | exact Rems.nil | (apply Rems.cons; (focus ((repeat first | exact Rem.here | apply Rem.there | apply Rem.skip); done)))); rintro _ _ ⟨rfl, l1, hl1, rfl⟩)
      | (apply GC_seqK; intro K hK)
      | (apply hK; clear hK K)
      | (apply GC_region)
      | (apply GL_nil)
      | (apply thenG_normal)
      | (apply GC_ret)
      | (apply GC_skip)
      | (apply GC_if_false; eq_refl)
      | (apply retG1; eq_refl)
      | (apply GL_on; eq_refl; eq_refl)
      | (apply G_pv; eq_refl; first | exact trivial | omega)
      | (apply G_ldW; eq_refl; (repeat first | exact In.here | apply In.there | apply In.skip); eq_refl)
      | (apply G_cmpF; eq_refl; eq_refl; omega)
      | (apply G_neqB; eq_refl; eq_refl)
      | (apply G_alloc; eq_refl; intro _)
      | (apply G_box; eq_refl; eq_refl; intro _)
      | (apply G_stW; (first | exact wr_p | kernel_rfl); eq_refl; eq_refl; eq_refl; eq_refl; (repeat first | exact Upd.here | apply Upd.there | apply Upd.skip); eq_refl))
    exact ⟨[], (by repeat first | exact Wk.nil | exact Wk.refl | (apply Wk.cons; (focus ((repeat first | exact Rem.here | apply Rem.there | apply Rem.skip); done))) | apply Wk.nilv | apply Wk.last | apply Wk.drop), rfl, rfl⟩
end SC
end Go.Proofs.Ytkndegjodnciaaa
end
section
/- Lists of bools that come in. -/
set_option linter.unusedVariables false
set_option linter.unusedSimpArgs false
namespace Go.Proofs.Ytkndegjodnciaaa
namespace SC
open Go.Proofs
set_option maxRecDepth 100000
section
variable {H : Type} {enc : TypeId × Value → H} {W : World} {base : Nat} {spare : Nat → Bool} {held : Bool}
theorem bytes4 : Try.prog.bytesOf 4 = 1 := by kernel_rfl
theorem openBoolS {fuel : Nat} {cs : List Value} {x : DataW H × List MemPlace} (h : DataW.trod enc Try.prog W base spare held fuel 4 cs = some x) : ∃ a, booc a = cs ∧ True := by
  obtain ⟨b, h1, h2⟩ := DataW.trod_bool Try.underlying4 h
  exact ⟨b, h1.symm, trivial⟩
/-- A list of bools that comes in. -/
theorem openBoolsF {fuel : Nat} {cs : List Value} {x : DataW H × List MemPlace} (h : DataW.trod enc Try.prog W base spare held fuel 62 cs = some x) : ∃ (A : Option Addr) (cp : Nat) (l : List Bool), cs = [.slice A l.length cp] ∧ RowA W booc 1 A l ∧ (A = none → cp = 0) ∧ (∀ R, (∀ n ∈ x.1.weights Try.prog 62, n ≤ R) → l.length ≤ R) := by
  obtain ⟨A, cp, l, e, r, _, _, z, w⟩ := openRowS booc (fun _ _ => True) Try.underlying62 (by kernel_rfl) (fun _ => rfl) (fun _ _ _ h => openBoolS h) h
  refine ⟨A, cp, l, e, r, z, fun R hR => ?_⟩
  have := w R hR
  rw [bytes4] at this
  omega
theorem cells_slice {A : Option Addr} {n c : Nat} : (Value.slice A n c).cells.toList = [.slice A n c] := rfl
theorem openBoolsS {v : Value} {d : DataW H} {ps : List MemPlace} {r : Reach} {b0 : Nat} (hv : Value.okWide Try.prog W r b0 62 v) (h : DataW.Trod enc Try.prog W base spare held 62 v d ps) (hz : ∀ n ∈ d.weights Try.prog 62, n ≤ 140737488351232) :
    ∃ (A : Option Addr) (cp : Nat) (l : List Bool), v = .slice A l.length cp ∧ RowA W booc 1 A l ∧ (A = none → cp = 0) ∧ l.length ≤ 140737488351232 := by
  obtain ⟨A, n, cp, rfl⟩ := Go.WideShapes.okWide_slice Try.underlying62 hv
  obtain ⟨fuel, hf⟩ := h
  rw [cells_slice] at hf
  obtain ⟨A', cp', l, e, r, z, w⟩ := openBoolsF hf
  cases (List.cons.inj e).1
  exact ⟨_, _, l, rfl, r, z, w _ hz⟩
end
end SC
end Go.Proofs.Ytkndegjodnciaaa
end

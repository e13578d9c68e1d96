/- Texts of this seat, one behind the other: T8 O9 T9 T2 T10 T11 T12 T13 T14 T15 N16. -/
import Derived.Test.YtclihihdgodloaaDoorU4
import Derived.Test.YtclihihdgodloaaDoorRows
import Derived.Test.YtclihihdgodloaaDoorTie
import Derived.ProofKit
import Derived.LaidMore
import Derived.OpenShut
import Derived.Stop.Joined
section
/- trestleref08: Values, step, Step; Resets, Join of both; Lit of both. -/
set_option linter.unusedVariables false
set_option linter.unusedSimpArgs false
namespace Go.Proofs.YtclihihdgodloaaDoor
namespace SC
open Go.Proofs
def jnE (a b : List Int) : Int := if 16384 < a.length ∨ 16384 < b.length then 2 else if (rowB a b.length && rowB b a.length) = true then 0 else 80
def jnM (a b : List Int) : List Int := if jnE a b = 0 then joinT a b else []
def rsF (x : Tri) : Int := if x.2.2 < 2 then x.2.2 else 2
theorem rsT_map (c : Circ) : rsT c = c.latches.map rsF := rfl
theorem joinT_fill {a b : List Int} {i : Nat} (h : i < a.length) : ((joinT a b).take i ++ a.drop i).set (i : Int).toNat (if gt a (i : Int) = gt b (i : Int) then gt a (i : Int) else 2) = (joinT a b).take (i + 1) ++ a.drop (i + 1) := by
  have hl := joinT_len a b
  have e := joinT_gt (a := a) (b := b) h
  rw [gt_nat (by omega)] at e
  rw [Int.toNat_natCast, ← e, List.set_append_right _ _ (by rw [List.length_take]; omega), List.length_take, show i - min i (joinT a b).length = 0 by omega, List.drop_eq_getElem_cons h, List.set_cons_zero, List.take_succ_eq_append_getElem (by omega), List.append_assoc]
  rfl
theorem joinT_keep {a b : List Int} {i : Nat} (h : i < a.length) (he : gt a (i : Int) = gt b (i : Int)) : (joinT a b).take i ++ a.drop i = (joinT a b).take (i + 1) ++ a.drop (i + 1) := by
  have hl := joinT_len a b
  have e := joinT_gt (a := a) (b := b) h
  rw [gt_nat (by omega), if_pos he, gt_nat h] at e
  rw [List.drop_eq_getElem_cons h, List.take_succ_eq_append_getElem (by omega), List.append_assoc, e]
  rfl
theorem joinG {a b : List Int} {i : Nat} (h : i < a.length) : gt ((joinT a b).take i ++ a.drop i) (i : Int) = gt a (i : Int) := by
  have hl := joinT_len a b
  have h2 : i < ((joinT a b).take i ++ a.drop i).length := by rw [List.length_append, List.length_take, List.length_drop]; omega
  rw [gt_nat h2, gt_nat h, List.getElem_append_right (by rw [List.length_take]; omega)]
  simp only [List.length_take, List.getElem_drop]
  congr 1
  omega
theorem joinG_len {a b : List Int} {i : Nat} (h : i ≤ a.length) : ((joinT a b).take i ++ a.drop i).length = a.length := by
  have hl := joinT_len a b
  rw [List.length_append, List.length_take, List.length_drop]
  omega
section
variable {P : Program} {n : Nat} {all : List Oper} {K : Env → Mm → Prop} {m : Md} {e : Env} {Γ Γ' : Mm} {d : Option Tmp} {ty t t' t0 : TypeId} {x y z : Operand}
end
attribute [local irreducible] WC WL WX WS WO OX Does DoesU Enters CV Pure thenQ blockQ retQ Wants retQC GC GL GS GX RdB thenG blockG retG Rd At gt CVN CVM
set_option maxRecDepth 100000
section
variable {w : World} {c : Circ} {h js : Hd} {S T : Option Addr} {k2 k3 : Nat} {s r : List Int} (H : CirIn w c h js) (hS : RowA w icell 1 S s) (hT : RowA w icell 1 T r) (hs : s.length ≤ 9223372036854775807) (hr : r.length ≤ 9223372036854775807)
include H hS hT hs hr
theorem ValuesRT_cv : CVN Tryd.prog 25 [.agg (ccells c h).toArray, .slice S s.length k2, .slice T r.length k3] w (IntsE (tvM c s r) (twE c s r)) := by
  have hord : ∀ Γ, In Γ (.old w none_) → ∀ w', Mem w' Γ → CVN Tryd.prog 57 [.agg (ccells c h).toArray] w' (OrdR c) := fun Γ hi w' M => OrderRefG (H.at_.chg (hi.old M)) H.sane H.okay H.fits
  have hr1 : ∀ Γ, In Γ (.old w none_) → ∀ w', Mem w' Γ → CVN Tryd.prog 58 [.slice S s.length k2, nu c.latches.length] w' _ := fun Γ hi w' M => row8_cv (hS.chg (hi.old M)) hs
  have hr2 : ∀ Γ, In Γ (.old w none_) → ∀ w', Mem w' Γ → CVN Tryd.prog 58 [.slice T r.length k3, nu c.inputs.length] w' _ := fun Γ hi w' M => row8_cv (hT.chg (hi.old M)) hr
  have hvl : twE c s r = 0 → ∀ Γ B k, In Γ (.old w none_) → In Γ (.vec icell 1 3 B k (ordM c)) → ∀ w', Mem w' Γ → CVN Tryd.prog 59 [.agg (ccells c h).toArray, .slice B (ordM c).length k, .slice S s.length k2, .slice T r.length k3] w' _ := fun he Γ B k hi hv w' M => by
    obtain ⟨z0, ⟨z1, z2⟩, z3, z4⟩ := twE_zero he
    have H' := H.chg (hi.old M)
    exact Values0T_cv (right_of H'.at_ H'.sane z0) H'.at_ (hv.row M) (hS.chg (hi.old M)) (hT.chg (hi.old M)) z1 z3 z2 z4
  have hInp := H.at_.inputs
  have hLat := H.at_.latches
  unfold IntsE
  refine CVN.enter 37 [6, 7] Tryd.func25 rfl rfl rfl (by decide) rfl ?_
  by_cases he : (lookM c).2 = 0
  · cases h1 : rowB s c.latches.length
    · have e0 := twE_no (s := s) (r := r) he (by rw [h1]; rfl)
      have e1 : tvM c s r = [] := if_neg (by rw [e0]; decide)
      rw [h1] at hr1
      rw [e0, e1]
      repeat' (first
|(apply G_call;eq_refl;eq_refl;(apply hord;(repeat first|exact In.here|apply In.there|apply In.skip));rintro _ _ (⟨he', rfl, rfl⟩|⟨_, A1, k1, rfl, rfl⟩);(exact absurd he he'))
|(apply G_call;eq_refl;eq_refl;(apply hr1;(repeat first|exact In.here|apply In.there|apply In.skip));rintro _ _ ⟨rfl, rfl⟩)
|(apply GC_seqK;intro K hK)
|(apply hK;clear hK K)
|(apply GC_region)
|(apply GL_nil)
|(apply thenG_normal)
|(apply thenG_ret)
|(apply GC_ret)
|(apply GC_skip)
|(apply GC_if_true;eq_refl)
|(apply GC_if_false;eq_refl)
|(apply retG2;eq_refl;eq_refl)
|(apply GL_on;eq_refl;eq_refl)
|(apply GL_off;eq_refl;eq_refl)
|(apply G_pv;eq_refl;first|exact trivial|omega)
|(apply G_field;eq_refl)
|(apply G_ld;eq_refl;(repeat first|exact In.here|apply In.there|apply In.skip);eq_refl)
|(apply G_ldW;eq_refl;(repeat first|exact In.here|apply In.there|apply In.skip);eq_refl)
|(apply G_cmpF;eq_refl;eq_refl;omega)
|(apply G_len;eq_refl)
|(apply G_box;eq_refl;eq_refl;intro _))
      exact ⟨[.vec icell 1 3 none 0 []], (by repeat first | exact Wk.nil | exact Wk.refl | (apply Wk.cons; (focus ((repeat first | exact Rem.here | apply Rem.there | apply Rem.skip); done))) | apply Wk.nilv | apply Wk.last | apply Wk.drop), none, 0, rfl, rfl⟩
    · rw [h1] at hr1
      cases h2 : rowB r c.inputs.length
      · have e0 := twE_no (s := s) (r := r) he (by rw [h1, h2]; rfl)
        have e1 : tvM c s r = [] := if_neg (by rw [e0]; decide)
        rw [h2] at hr2
        rw [e0, e1]
        repeat' (first
|(apply G_call;eq_refl;eq_refl;(apply hord;(repeat first|exact In.here|apply In.there|apply In.skip));rintro _ _ (⟨he', rfl, rfl⟩|⟨_, A1, k1, rfl, rfl⟩);(exact absurd he he'))
|(apply G_call;eq_refl;eq_refl;(apply hr1;(repeat first|exact In.here|apply In.there|apply In.skip));rintro _ _ ⟨rfl, rfl⟩)
|(apply G_call;eq_refl;eq_refl;(apply hr2;(repeat first|exact In.here|apply In.there|apply In.skip));rintro _ _ ⟨rfl, rfl⟩)
|(apply GC_seqK;intro K hK)
|(apply hK;clear hK K)
|(apply GC_region)
|(apply GL_nil)
|(apply thenG_normal)
|(apply thenG_ret)
|(apply GC_ret)
|(apply GC_skip)
|(apply GC_if_true;eq_refl)
|(apply GC_if_false;eq_refl)
|(apply retG2;eq_refl;eq_refl)
|(apply GL_on;eq_refl;eq_refl)
|(apply G_pv;eq_refl;first|exact trivial|omega)
|(apply G_field;eq_refl)
|(apply G_ld;eq_refl;(repeat first|exact In.here|apply In.there|apply In.skip);eq_refl)
|(apply G_ldW;eq_refl;(repeat first|exact In.here|apply In.there|apply In.skip);eq_refl)
|(apply G_cmpF;eq_refl;eq_refl;omega)
|(apply G_len;eq_refl)
|(apply G_box;eq_refl;eq_refl;intro _))
        exact ⟨[.vec icell 1 3 none 0 []], (by repeat first | exact Wk.nil | exact Wk.refl | (apply Wk.cons; (focus ((repeat first | exact Rem.here | apply Rem.there | apply Rem.skip); done))) | apply Wk.nilv | apply Wk.last | apply Wk.drop), none, 0, rfl, rfl⟩
      · have e0 := twE_ok he h1 h2
        have e1 : tvM c s r = valT c s r := if_pos e0
        have hv := hvl e0
        rw [h2] at hr2
        rw [e0, e1]
        repeat' (first
|(apply G_call;eq_refl;eq_refl;(apply hord;(repeat first|exact In.here|apply In.there|apply In.skip));rintro _ _ (⟨he', rfl, rfl⟩|⟨_, A1, k1, rfl, rfl⟩);(exact absurd he he'))
|(apply G_call;eq_refl;eq_refl;(apply hr1;(repeat first|exact In.here|apply In.there|apply In.skip));rintro _ _ ⟨rfl, rfl⟩)
|(apply G_call;eq_refl;eq_refl;(apply hr2;(repeat first|exact In.here|apply In.there|apply In.skip));rintro _ _ ⟨rfl, rfl⟩)
|(apply G_call;eq_refl;eq_refl;(apply hv;(repeat first|exact In.here|apply In.there|apply In.skip);(repeat first|exact In.here|apply In.there|apply In.skip));rintro _ _ ⟨A2, k4, rfl, rfl⟩)
|(apply GC_seqK;intro K hK)
|(apply hK;clear hK K)
|(apply GC_region)
|(apply GL_nil)
|(apply thenG_normal)
|(apply GC_ret)
|(apply GC_skip)
|(apply GC_if_false;eq_refl)
|(apply retG2;eq_refl;eq_refl)
|(apply GL_on;eq_refl;eq_refl)
|(apply G_pv;eq_refl;first|exact trivial|omega)
|(apply G_field;eq_refl)
|(apply G_ld;eq_refl;(repeat first|exact In.here|apply In.there|apply In.skip);eq_refl)
|(apply G_ldW;eq_refl;(repeat first|exact In.here|apply In.there|apply In.skip);eq_refl)
|(apply G_cmpF;eq_refl;eq_refl;omega)
|(apply G_len;eq_refl)
|(apply G_box;eq_refl;eq_refl;intro _))
        exact ⟨[_], (by repeat first | exact Wk.nil | exact Wk.refl | (apply Wk.cons; (focus ((repeat first | exact Rem.here | apply Rem.there | apply Rem.skip); done))) | apply Wk.nilv | apply Wk.last | apply Wk.drop), _, _, rfl, rfl⟩
  · have e0 := twE_look (s := s) (r := r) he
    have e1 : tvM c s r = [] := if_neg (by rw [e0]; exact he)
    rw [e0, e1]
    repeat' (first
|(apply G_call;eq_refl;eq_refl;(apply hord;(repeat first|exact In.here|apply In.there|apply In.skip));rintro _ _ (⟨_, rfl, rfl⟩|⟨he', A1, k1, rfl, rfl⟩);rotate_left;(exact absurd he' he))
|(apply GC_seqK;intro K hK)
|(apply hK;clear hK K)
|(apply GC_region)
|(apply GL_nil)
|(apply thenG_normal)
|(apply thenG_ret)
|(apply GC_ret)
|(apply GC_if_true;eq_refl)
|(apply retG2;eq_refl;eq_refl)
|(apply GL_on;eq_refl;eq_refl)
|(apply G_pv;eq_refl;first|exact trivial|omega)
|(apply G_ldW;eq_refl;(repeat first|exact In.here|apply In.there|apply In.skip);eq_refl)
|(apply G_cmpT;eq_refl;eq_refl;omega)
|(apply G_box;eq_refl;eq_refl;intro _))
    exact ⟨[.vec icell 1 3 none 0 []], (by repeat first | exact Wk.nil | exact Wk.refl | (apply Wk.cons; (focus ((repeat first | exact Rem.here | apply Rem.there | apply Rem.skip); done))) | apply Wk.nilv | apply Wk.last | apply Wk.drop), none, 0, rfl, rfl⟩
end
theorem step8_cv {w : World} {c : Circ} {h js : Hd} {A : Option Addr} {k : Nat} {v : List Int} (R : Right c) (H : CirAt w c h js) (hA : RowA w icell 1 A v) (hv : Row3 v) (hl : v.length = (c.max + 1).toNat) :
    CVN Tryd.prog 60 [.agg (ccells c h).toArray, .slice A v.length k] w fun r N => ∃ A' k', r = .slice A' (nxtT c v).length k' ∧ N = [.vec icell 1 3 A' k' (nxtT c v)] := by
  have hLat := H.latches
  have hn := R.nLat
  have m1 := R.m1
  have fl0 : fillL (fun x : Tri => tl v x.2.1) c.latches 0 0 = List.replicate c.latches.length 0 := fillL_0
  refine CVN.enter 30 [4] Tryd.func60 rfl rfl rfl (by decide) rfl ?_
  repeat' (first
|(apply G_make icell;eq_refl;eq_refl;eq_refl;omega;decide;intro b1)
|(apply GC_seqK;intro K hK)
|(apply hK;clear hK K)
|(apply GC_block)
|(apply GC_region)
|(apply GL_nil)
|(apply thenG_normal)
|(apply GL_on;eq_refl;eq_refl)
|(apply G_pv;eq_refl;first|exact trivial|omega)
|(apply G_field;eq_refl)
|(apply G_ld;eq_refl;(repeat first|exact In.here|apply In.there|apply In.skip);eq_refl)
|(apply G_len;eq_refl)
|(apply G_box;eq_refl;eq_refl;intro _))
  rename_i b0
  refine GC_loopK [1, 2, 5] (fun s : Nat × List Int => [(6, nu s.1)]) (fun s => [.vec icell 1 3 (some ⟨b1, 0, none⟩) c.latches.length s.2, .box b0 29 (ccells c h), .old w none_]) (fun s => s.1 ≤ c.latches.length ∧ s.2 = fillL (fun x => tl v x.2.1) c.latches 0 s.1) (fun s => c.latches.length - s.1) (0, List.replicate c.latches.length 0) (by repeat first | exact Pick.nil | (apply Pick.cons; eq_refl)) (by repeat first | exact trivial | refine ⟨rfl, ?_⟩) (by repeat first | exact Wk.nil | exact Wk.refl | (apply Wk.cons; (focus ((repeat first | exact Rem.here | apply Rem.there | apply Rem.skip); done))) | apply Wk.nilv | apply Wk.last | apply Wk.drop) ⟨Nat.zero_le _, fl0.symm⟩ ?_
  rintro ⟨i, out⟩ ⟨hi, hout⟩
  dsimp only at hi hout ⊢
  have hlen : out.length = c.latches.length := by rw [hout, fillL_len hi]
  rcases Nat.lt_or_ge i c.latches.length with hlt | hge
  · have u := (R.lat (gt_mem (l := c.latches) (i := (i : Int)) (by omega) (by omega))).2.1.hasI hl
    have hst := fillL_set (f := fun x : Tri => tl v x.2.1) (z := (0 : Int)) hlt
    rw [← hout] at hst
    have hof : ∀ Γ, In Γ (.old w none_) → ∀ w', Mem w' Γ → CVN Tryd.prog 62 [.slice A v.length k, nu (gt c.latches (i : Int)).2.1] w' _ := fun Γ ho w' M => Lit0T_cv (hA.chg (ho.old M)) rfl (hv.gt u.1 u.2) u.1 u.2 (by omega)
    repeat' (first
|(apply G_call;eq_refl;eq_refl;(apply hof;(repeat first|exact In.here|apply In.there|apply In.skip));rintro _ _ ⟨rfl, rfl⟩)
|(apply GC_seqK;intro K hK)
|(apply hK;clear hK K)
|(apply GC_block)
|(apply GC_region)
|(apply GL_nil)
|(apply thenG_normal)
|(apply blockG_normal)
|(apply GC_skip)
|(apply GC_if_true;eq_refl)
|(apply GL_on;eq_refl;eq_refl)
|(apply G_pv;eq_refl;first|exact trivial|omega)
|(apply G_field;eq_refl)
|(apply G_fieldP;eq_refl)
|(apply G_ld;eq_refl;(repeat first|exact In.here|apply In.there|apply In.skip);eq_refl)
|(apply G_rdF;eq_refl;(first|(apply Rd.own;(repeat first|exact In.here|apply In.there|apply In.skip);infer_instance)|(apply Rd.old;(repeat first|exact In.here|apply In.there|apply In.skip);assumption)|(apply Rd.oldR;(repeat first|exact In.here|apply In.there|apply In.skip);assumption)|exact Rd.nil|assumption);(case ih => infer_instance);omega;omega;eq_refl)
|(apply G_cmpT;eq_refl;eq_refl;omega)
|(apply G_len;eq_refl)
|(apply G_ix;eq_refl;eq_refl;(first|(apply Rd.own;(repeat first|exact In.here|apply In.there|apply In.skip);infer_instance)|(apply Rd.old;(repeat first|exact In.here|apply In.there|apply In.skip);assumption)|(apply Rd.oldR;(repeat first|exact In.here|apply In.there|apply In.skip);assumption)|exact Rd.nil|assumption);(first|eq_refl|omega);omega;omega)
|(apply G_stV;(first|exact wr_p|kernel_rfl);eq_refl;eq_refl;eq_refl;eq_refl;(repeat first|exact Upd.here|apply Upd.there|apply Upd.skip);infer_instance;infer_instance;eq_refl;omega;(try simp only [List.length_set, List.length_append, List.length_replicate]);omega))
    exact ⟨(i + 1, _), (by repeat first | exact trivial | refine ⟨rfl, ?_⟩), (by repeat first | exact Wk.nil | exact Wk.refl | (apply Wk.cons; (focus ((repeat first | exact Rem.here | apply Rem.there | apply Rem.skip); done))) | apply Wk.nilv | apply Wk.last | apply Wk.drop), ⟨hlt, hst⟩, by simp only; omega⟩
  · rw [fillL_all hge] at hout
    repeat' (first
|(apply GC_seqK;intro K hK)
|(apply hK;clear hK K)
|(clear hK K;apply hK;clear hK K)
|(apply GC_region)
|(apply GL_nil)
|(apply thenG_normal)
|(apply thenG_exit)
|(apply blockG_hit)
|(apply GC_ret)
|(apply GC_exit)
|(apply GC_if_false;eq_refl)
|(apply retG1;eq_refl)
|(apply GL_on;eq_refl;eq_refl)
|(apply G_pv;eq_refl;first|exact trivial|omega)
|(apply G_field;eq_refl)
|(apply G_ld;eq_refl;(repeat first|exact In.here|apply In.there|apply In.skip);eq_refl)
|(apply G_cmpF;eq_refl;eq_refl;omega)
|(apply G_len;eq_refl))
    have e1 : c.latches.length = (nxtT c v).length := by unfold nxtT; simp
    refine ⟨[.vec icell 1 3 (some ⟨b1, 0, none⟩) c.latches.length out], (by repeat first | exact Wk.nil | exact Wk.refl | (apply Wk.cons; (focus ((repeat first | exact Rem.here | apply Rem.there | apply Rem.skip); done))) | apply Wk.nilv | apply Wk.last | apply Wk.drop), some ⟨b1, 0, none⟩, c.latches.length, by rw [e1], by rw [hout]; rfl⟩
section
variable {w : World} {c : Circ} {h js : Hd} {S T : Option Addr} {k2 k3 : Nat} {s r : List Int} (H : CirIn w c h js) (hS : RowA w icell 1 S s) (hT : RowA w icell 1 T r) (hs : s.length ≤ 9223372036854775807) (hr : r.length ≤ 9223372036854775807)
include H hS hT hs hr
theorem StepRT_cv : CVN Tryd.prog 27 [.agg (ccells c h).toArray, .slice S s.length k2, .slice T r.length k3] w (IntsE (tnM c s r) (twE c s r)) := by
  have hst : ∀ Γ, In Γ (.old w none_) → ∀ w', Mem w' Γ → CVN Tryd.prog 25 [.agg (ccells c h).toArray, .slice S s.length k2, .slice T r.length k3] w' (IntsE (tvM c s r) (twE c s r)) := fun Γ hi w' M => ValuesRT_cv (H.chg (hi.old M)) (hS.chg (hi.old M)) (hT.chg (hi.old M)) hs hr
  unfold IntsE at hst ⊢
  refine CVN.enter 23 [6, 7] Tryd.func27 rfl rfl rfl (by decide) rfl ?_
  by_cases he : twE c s r = 0
  · obtain ⟨z0, ⟨z1, z2⟩, z3, z4⟩ := twE_zero he
    have R := right_of H.at_ H.sane z0
    have e1 : tvM c s r = valT c s r := if_pos he
    have e2 : tnM c s r = nxtT c (valT c s r) := if_pos he
    rw [he, e1] at hst
    rw [he, e2]
    have hnx : ∀ Γ A k', In Γ (.old w none_) → In Γ (.vec icell 1 3 A k' (valT c s r)) → ∀ w', Mem w' Γ → CVN Tryd.prog 60 [.agg (ccells c h).toArray, .slice A (valT c s r).length k'] w' _ := fun Γ A k' hi hv w' M => step8_cv R (H.at_.chg (hi.old M)) (hv.row M) (valT_row z2 z4 z1 z3) (valT_len R.m0 s r)
    repeat' (first
|(apply G_call;eq_refl;eq_refl;(apply hst;(repeat first|exact In.here|apply In.there|apply In.skip));rintro _ _ ⟨A1, k4, rfl, rfl⟩)
|(apply G_call;eq_refl;eq_refl;(apply hnx;(repeat first|exact In.here|apply In.there|apply In.skip);(repeat first|exact In.here|apply In.there|apply In.skip));rintro _ _ ⟨A2, k5, rfl, rfl⟩)
|(apply GC_seqK;intro K hK)
|(apply hK;clear hK K)
|(apply GC_region)
|(apply GL_nil)
|(apply thenG_normal)
|(apply GC_ret)
|(apply GC_skip)
|(apply GC_if_false;eq_refl)
|(apply retG2;eq_refl;eq_refl)
|(apply GL_on;eq_refl;eq_refl)
|(apply G_pv;eq_refl;first|exact trivial|omega)
|(apply G_ldW;eq_refl;(repeat first|exact In.here|apply In.there|apply In.skip);eq_refl)
|(apply G_cmpF;eq_refl;eq_refl;omega)
|(apply G_box;eq_refl;eq_refl;intro _))
    exact ⟨[_], (by repeat first | exact Wk.nil | exact Wk.refl | (apply Wk.cons; (focus ((repeat first | exact Rem.here | apply Rem.there | apply Rem.skip); done))) | apply Wk.nilv | apply Wk.last | apply Wk.drop), _, _, rfl, rfl⟩
  · have e1 : tvM c s r = [] := if_neg he
    have e2 : tnM c s r = [] := if_neg he
    rw [e1] at hst
    rw [e2]
    generalize twE c s r = ε at *
    repeat' (first
|(apply G_call;eq_refl;eq_refl;(apply hst;(repeat first|exact In.here|apply In.there|apply In.skip));rintro _ _ ⟨A1, k4, rfl, rfl⟩)
|(apply GC_seqK;intro K hK)
|(apply hK;clear hK K)
|(apply GC_region)
|(apply GL_nil)
|(apply thenG_normal)
|(apply thenG_ret)
|(apply GC_ret)
|(apply GC_if_true;eq_refl)
|(apply retG2;eq_refl;eq_refl)
|(apply GL_on;eq_refl;eq_refl)
|(apply G_pv;eq_refl;first|exact trivial|omega)
|(apply G_ldW;eq_refl;(repeat first|exact In.here|apply In.there|apply In.skip);eq_refl)
|(apply G_cmpT;eq_refl;eq_refl;omega)
|(apply G_box;eq_refl;eq_refl;intro _))
    exact ⟨[.vec icell 1 3 none 0 []], (by repeat first | exact Wk.nil | exact Wk.refl | (apply Wk.cons; (focus ((repeat first | exact Rem.here | apply Rem.there | apply Rem.skip); done))) | apply Wk.nilv | apply Wk.last | apply Wk.drop), none, 0, rfl, rfl⟩
end
/-! ### Resets -/
theorem resetsP_cv {w : World} {c : Circ} {h js : Hd} (R : Right c) (H : CirAt w c h js) : CVN Tryd.prog 50 [.agg (ccells c h).toArray] w fun r N => ∃ A' k', r = .slice A' (rsT c).length k' ∧ N = [.vec icell 1 3 A' k' (rsT c)] := by
  have hLat := H.latches
  have hn := R.nLat
  have m1 := R.m1
  have fl0 : fillL rsF c.latches 0 0 = List.replicate c.latches.length 0 := fillL_0
  refine CVN.enter 31 [2] Tryd.func50 rfl rfl rfl (by decide) rfl ?_
  repeat' (first
|(apply G_make icell;eq_refl;eq_refl;eq_refl;omega;decide;intro b1)
|(apply GC_seqK;intro K hK)
|(apply hK;clear hK K)
|(apply GC_block)
|(apply GC_region)
|(apply GL_nil)
|(apply thenG_normal)
|(apply GL_on;eq_refl;eq_refl)
|(apply G_pv;eq_refl;first|exact trivial|omega)
|(apply G_field;eq_refl)
|(apply G_ld;eq_refl;(repeat first|exact In.here|apply In.there|apply In.skip);eq_refl)
|(apply G_len;eq_refl)
|(apply G_box;eq_refl;eq_refl;intro _))
  refine GC_loopK [3, 11, 12] (fun s : Nat × List Int => [(13, nu s.1)]) (fun s => [.vec icell 1 3 (some ⟨b1, 0, none⟩) c.latches.length s.2, .old w none_]) (fun s => s.1 ≤ c.latches.length ∧ s.2 = fillL rsF c.latches 0 s.1) (fun s => c.latches.length - s.1) (0, List.replicate c.latches.length 0) (by repeat first | exact Pick.nil | (apply Pick.cons; eq_refl)) (by repeat first | exact trivial | refine ⟨rfl, ?_⟩) (by repeat first | exact Wk.nil | exact Wk.refl | (apply Wk.cons; (focus ((repeat first | exact Rem.here | apply Rem.there | apply Rem.skip); done))) | apply Wk.nilv | apply Wk.last | apply Wk.drop) ⟨Nat.zero_le _, fl0.symm⟩ ?_
  rintro ⟨i, out⟩ ⟨hi, hout⟩
  dsimp only at hi hout ⊢
  have hlen : out.length = c.latches.length := by rw [hout, fillL_len hi]
  rcases Nat.lt_or_ge i c.latches.length with hlt | hge
  · have u := R.lat (gt_mem (l := c.latches) (i := (i : Int)) (by omega) (by omega))
    have hst := fillL_set (f := rsF) (z := (0 : Int)) hlt
    rw [← hout] at hst
    unfold rsF at hst
    have hl2 : (out.set (i : Int).toNat 2).length = c.latches.length := by rw [List.length_set]; exact hlen
    by_cases h2 : (gt c.latches (i : Int)).2.2 < 2
    · rw [if_pos h2] at hst
      repeat' (first
|(apply GC_seqK;intro K hK)
|(apply hK;clear hK K)
|(apply GC_block)
|(apply GC_region)
|(apply GL_nil)
|(apply thenG_normal)
|(apply blockG_normal)
|(apply GC_skip)
|(apply GC_if_true;eq_refl)
|(apply GL_on;eq_refl;eq_refl)
|(apply G_pv;eq_refl;first|exact trivial|omega)
|(apply G_field;eq_refl)
|(apply G_ld;eq_refl;(repeat first|exact In.here|apply In.there|apply In.skip);eq_refl)
|(apply G_rdW;eq_refl;(first|(apply Rd.own;(repeat first|exact In.here|apply In.there|apply In.skip);infer_instance)|(apply Rd.old;(repeat first|exact In.here|apply In.there|apply In.skip);assumption)|(apply Rd.oldR;(repeat first|exact In.here|apply In.there|apply In.skip);assumption)|exact Rd.nil|assumption);infer_instance;(case ih => infer_instance);omega;omega)
|(apply G_cmpT;eq_refl;eq_refl;omega)
|(apply G_ix;eq_refl;eq_refl;(first|(apply Rd.own;(repeat first|exact In.here|apply In.there|apply In.skip);infer_instance)|(apply Rd.old;(repeat first|exact In.here|apply In.there|apply In.skip);assumption)|(apply Rd.oldR;(repeat first|exact In.here|apply In.there|apply In.skip);assumption)|exact Rd.nil|assumption);(first|eq_refl|omega);omega;omega)
|(apply G_alloc;eq_refl;intro _)
|(apply G_stV;(first|exact wr_p|kernel_rfl);eq_refl;eq_refl;eq_refl;eq_refl;(repeat first|exact Upd.here|apply Upd.there|apply Upd.skip);infer_instance;infer_instance;eq_refl;omega;(try simp only [List.length_set, List.length_append, List.length_replicate]);omega)
|(apply G_stW;(first|exact wr_p|kernel_rfl);eq_refl;eq_refl;eq_refl;eq_refl;(repeat first|exact Upd.here|apply Upd.there|apply Upd.skip);eq_refl))
      exact ⟨(i + 1, _), (by repeat first | exact trivial | refine ⟨rfl, ?_⟩), (by repeat first | exact Wk.nil | exact Wk.refl | (apply Wk.cons; (focus ((repeat first | exact Rem.here | apply Rem.there | apply Rem.skip); done))) | apply Wk.nilv | apply Wk.last | apply Wk.drop), ⟨hlt, by rw [List.set_set]; exact hst⟩, by simp only; omega⟩
    · rw [if_neg h2] at hst
      repeat' (first
|(apply GC_seqK;intro K hK)
|(apply hK;clear hK K)
|(apply GC_block)
|(apply GC_region)
|(apply GL_nil)
|(apply thenG_normal)
|(apply blockG_normal)
|(apply GC_skip)
|(apply GC_if_true;eq_refl)
|(apply GC_if_false;eq_refl)
|(apply GL_on;eq_refl;eq_refl)
|(apply G_pv;eq_refl;first|exact trivial|omega)
|(apply G_field;eq_refl)
|(apply G_ld;eq_refl;(repeat first|exact In.here|apply In.there|apply In.skip);eq_refl)
|(apply G_rdW;eq_refl;(first|(apply Rd.own;(repeat first|exact In.here|apply In.there|apply In.skip);infer_instance)|(apply Rd.old;(repeat first|exact In.here|apply In.there|apply In.skip);assumption)|(apply Rd.oldR;(repeat first|exact In.here|apply In.there|apply In.skip);assumption)|exact Rd.nil|assumption);infer_instance;(case ih => infer_instance);omega;omega)
|(apply G_cmpT;eq_refl;eq_refl;omega)
|(apply G_cmpF;eq_refl;eq_refl;omega)
|(apply G_ix;eq_refl;eq_refl;(first|(apply Rd.own;(repeat first|exact In.here|apply In.there|apply In.skip);infer_instance)|(apply Rd.old;(repeat first|exact In.here|apply In.there|apply In.skip);assumption)|(apply Rd.oldR;(repeat first|exact In.here|apply In.there|apply In.skip);assumption)|exact Rd.nil|assumption);(first|eq_refl|omega);omega;omega)
|(apply G_alloc;eq_refl;intro _)
|(apply G_stV;(first|exact wr_p|kernel_rfl);eq_refl;eq_refl;eq_refl;eq_refl;(repeat first|exact Upd.here|apply Upd.there|apply Upd.skip);infer_instance;infer_instance;eq_refl;omega;(try simp only [List.length_set, List.length_append, List.length_replicate]);omega)
|(apply G_stW;(first|exact wr_p|kernel_rfl);eq_refl;eq_refl;eq_refl;eq_refl;(repeat first|exact Upd.here|apply Upd.there|apply Upd.skip);eq_refl))
      exact ⟨(i + 1, _), (by repeat first | exact trivial | refine ⟨rfl, ?_⟩), (by repeat first | exact Wk.nil | exact Wk.refl | (apply Wk.cons; (focus ((repeat first | exact Rem.here | apply Rem.there | apply Rem.skip); done))) | apply Wk.nilv | apply Wk.last | apply Wk.drop), ⟨hlt, hst⟩, by simp only; omega⟩
  · rw [fillL_all hge, ← rsT_map] at hout
    repeat' (first
|(apply GC_seqK;intro K hK)
|(apply hK;clear hK K)
|(clear hK K;apply hK;clear hK K)
|(apply GC_region)
|(apply GL_nil)
|(apply thenG_normal)
|(apply thenG_exit)
|(apply blockG_hit)
|(apply GC_ret)
|(apply GC_exit)
|(apply GC_if_false;eq_refl)
|(apply retG1;eq_refl)
|(apply GL_on;eq_refl;eq_refl)
|(apply G_pv;eq_refl;first|exact trivial|omega)
|(apply G_cmpF;eq_refl;eq_refl;omega))
    have e1 : c.latches.length = (rsT c).length := by unfold rsT; simp
    refine ⟨[.vec icell 1 3 (some ⟨b1, 0, none⟩) c.latches.length out], (by repeat first | exact Wk.nil | exact Wk.refl | (apply Wk.cons; (focus ((repeat first | exact Rem.here | apply Rem.there | apply Rem.skip); done))) | apply Wk.nilv | apply Wk.last | apply Wk.drop), some ⟨b1, 0, none⟩, c.latches.length, by rw [e1], by rw [hout]⟩
theorem ResetsP_cv {w : World} {c : Circ} {h js : Hd} (H : CirIn w c h js) : CVN Tryd.prog 21 [.agg (ccells c h).toArray] w (IntsE (trsM c) (lookM c).2) := by
  have hck : ∀ Γ, In Γ (.old w none_) → ∀ w', Mem w' Γ → CVN Tryd.prog 55 [.agg (ccells c h).toArray] w' fun v N => N = [] ∧ v = .tuple #[nu (lookM c).1, nu (lookM c).2] := fun Γ hi w' M => have H' := H.chg (hi.old M); CVN.of (check_cv H'.at_ H'.sane) fun v w' h => ⟨h.2, h.1⟩
  unfold IntsE
  refine CVN.enter 16 [2, 3] Tryd.func21 rfl rfl rfl (by decide) rfl ?_
  by_cases he : (lookM c).2 = 0
  · have R := right_of H.at_ H.sane he
    have hrs : ∀ Γ, In Γ (.old w none_) → ∀ w', Mem w' Γ → CVN Tryd.prog 50 [.agg (ccells c h).toArray] w' _ := fun Γ hi w' M => resetsP_cv R (H.at_.chg (hi.old M))
    have e1 : trsM c = rsT c := if_pos he
    rw [he] at hck
    rw [he, e1]
    repeat' (first
|(apply G_call;eq_refl;eq_refl;(apply hck;(repeat first|exact In.here|apply In.there|apply In.skip));rintro _ _ ⟨rfl, rfl⟩)
|(apply G_call;eq_refl;eq_refl;(apply hrs;(repeat first|exact In.here|apply In.there|apply In.skip));rintro _ _ ⟨A2, k5, rfl, rfl⟩)
|(apply GC_seqK;intro K hK)
|(apply hK;clear hK K)
|(apply GC_region)
|(apply GL_nil)
|(apply thenG_normal)
|(apply GC_ret)
|(apply GC_skip)
|(apply GC_if_false;eq_refl)
|(apply retG2;eq_refl;eq_refl)
|(apply GL_on;eq_refl;eq_refl)
|(apply G_pv;eq_refl;first|exact trivial|omega)
|(apply G_ldW;eq_refl;(repeat first|exact In.here|apply In.there|apply In.skip);eq_refl)
|(apply G_cmpF;eq_refl;eq_refl;omega)
|(apply G_box;eq_refl;eq_refl;intro _))
    exact ⟨[_], (by repeat first | exact Wk.nil | exact Wk.refl | (apply Wk.cons; (focus ((repeat first | exact Rem.here | apply Rem.there | apply Rem.skip); done))) | apply Wk.nilv | apply Wk.last | apply Wk.drop), _, _, rfl, rfl⟩
  · have e1 : trsM c = [] := if_neg he
    rw [e1]
    generalize (lookM c).2 = ε at *
    repeat' (first
|(apply G_call;eq_refl;eq_refl;(apply hck;(repeat first|exact In.here|apply In.there|apply In.skip));rintro _ _ ⟨rfl, rfl⟩)
|(apply GC_seqK;intro K hK)
|(apply hK;clear hK K)
|(apply GC_region)
|(apply GL_nil)
|(apply thenG_normal)
|(apply thenG_ret)
|(apply GC_ret)
|(apply GC_if_true;eq_refl)
|(apply retG2;eq_refl;eq_refl)
|(apply GL_on;eq_refl;eq_refl)
|(apply G_pv;eq_refl;first|exact trivial|omega)
|(apply G_ldW;eq_refl;(repeat first|exact In.here|apply In.there|apply In.skip);eq_refl)
|(apply G_cmpT;eq_refl;eq_refl;omega)
|(apply G_box;eq_refl;eq_refl;intro _))
    exact ⟨[.vec icell 1 3 none 0 []], (by repeat first | exact Wk.nil | exact Wk.refl | (apply Wk.cons; (focus ((repeat first | exact Rem.here | apply Rem.there | apply Rem.skip); done))) | apply Wk.nilv | apply Wk.last | apply Wk.drop), none, 0, rfl, rfl⟩
theorem ResetsRT_cv {w : World} {c : Circ} {h js : Hd} (H : CirIn w c h js) : CVN Tryd.prog 22 [.agg (ccells c h).toArray] w (IntsE (trsM c) (lookM c).2) := by
  have hck : ∀ Γ, In Γ (.old w none_) → ∀ w', Mem w' Γ → CVN Tryd.prog 56 [.agg (ccells c h).toArray] w' fun v N => N = [] ∧ v = .tuple #[nu (lookM c).1, nu (lookM c).2] := fun Γ hi w' M => have H' := H.chg (hi.old M); CVN.of (checkRef_cv H'.at_ H'.sane H'.okay H'.fits) fun v w' h => ⟨h.2, h.1⟩
  have hLat := H.at_.latches
  unfold IntsE
  refine CVN.enter 38 [2, 3] Tryd.func22 rfl rfl rfl (by decide) rfl ?_
  by_cases he : (lookM c).2 = 0
  · have R := right_of H.at_ H.sane he
    have hn := R.nLat
    have m1 := R.m1
    have e1 : trsM c = rsT c := if_pos he
    have fl0 : fillL rsF c.latches 0 0 = List.replicate c.latches.length 0 := fillL_0
    rw [he] at hck
    rw [he, e1]
    repeat' (first
|(apply G_call;eq_refl;eq_refl;(apply hck;(repeat first|exact In.here|apply In.there|apply In.skip));rintro _ _ ⟨rfl, rfl⟩)
|(apply G_make icell;eq_refl;eq_refl;eq_refl;omega;decide;intro b1)
|(apply GC_seqK;intro K hK)
|(apply hK;clear hK K)
|(apply GC_block)
|(apply GC_region)
|(apply GL_nil)
|(apply thenG_normal)
|(apply GC_skip)
|(apply GC_if_false;eq_refl)
|(apply GL_on;eq_refl;eq_refl)
|(apply G_pv;eq_refl;first|exact trivial|omega)
|(apply G_field;eq_refl)
|(apply G_ld;eq_refl;(repeat first|exact In.here|apply In.there|apply In.skip);eq_refl)
|(apply G_ldW;eq_refl;(repeat first|exact In.here|apply In.there|apply In.skip);eq_refl)
|(apply G_cmpF;eq_refl;eq_refl;omega)
|(apply G_len;eq_refl)
|(apply G_box;eq_refl;eq_refl;intro _))
    rename_i b0
    refine GC_loopK [1, 6] (fun s : Nat × List Int => [(7, nu s.1)]) (fun s => [.vec icell 1 3 (some ⟨b1, 0, none⟩) c.latches.length s.2, .box b0 29 (ccells c h), .old w none_]) (fun s => s.1 ≤ c.latches.length ∧ s.2 = fillL rsF c.latches 0 s.1) (fun s => c.latches.length - s.1) (0, List.replicate c.latches.length 0) (by repeat first | exact Pick.nil | (apply Pick.cons; eq_refl)) (by repeat first | exact trivial | refine ⟨rfl, ?_⟩) (by repeat first | exact Wk.nil | exact Wk.refl | (apply Wk.cons; (focus ((repeat first | exact Rem.here | apply Rem.there | apply Rem.skip); done))) | apply Wk.nilv | apply Wk.last | apply Wk.drop) ⟨Nat.zero_le _, fl0.symm⟩ ?_
    rintro ⟨i, out⟩ ⟨hi, hout⟩
    dsimp only at hi hout ⊢
    have hlen : out.length = c.latches.length := by rw [hout, fillL_len hi]
    rcases Nat.lt_or_ge i c.latches.length with hlt | hge
    · have hst := fillL_set (f := rsF) (z := (0 : Int)) hlt
      rw [← hout] at hst
      have e2 : rsF (gt c.latches (i : Int)) = min (gt c.latches (i : Int)).2.2 2 := by unfold rsF; split <;> omega
      rw [e2] at hst
      repeat' (first
|(apply GC_seqK;intro K hK)
|(apply hK;clear hK K)
|(apply GC_block)
|(apply GC_region)
|(apply GL_nil)
|(apply thenG_normal)
|(apply blockG_normal)
|(apply GC_skip)
|(apply GC_if_true;eq_refl)
|(apply GL_on;eq_refl;eq_refl)
|(apply G_pv;eq_refl;first|exact trivial|omega)
|(apply G_field;eq_refl)
|(apply G_fieldP;eq_refl)
|(apply G_ld;eq_refl;(repeat first|exact In.here|apply In.there|apply In.skip);eq_refl)
|(apply G_rdF;eq_refl;(first|(apply Rd.own;(repeat first|exact In.here|apply In.there|apply In.skip);infer_instance)|(apply Rd.old;(repeat first|exact In.here|apply In.there|apply In.skip);assumption)|(apply Rd.oldR;(repeat first|exact In.here|apply In.there|apply In.skip);assumption)|exact Rd.nil|assumption);(case ih => infer_instance);omega;omega;eq_refl)
|(apply G_cmpT;eq_refl;eq_refl;omega)
|(apply G_len;eq_refl)
|(apply G_min;eq_refl;eq_refl)
|(apply G_ix;eq_refl;eq_refl;(first|(apply Rd.own;(repeat first|exact In.here|apply In.there|apply In.skip);infer_instance)|(apply Rd.old;(repeat first|exact In.here|apply In.there|apply In.skip);assumption)|(apply Rd.oldR;(repeat first|exact In.here|apply In.there|apply In.skip);assumption)|exact Rd.nil|assumption);(first|eq_refl|omega);omega;omega)
|(apply G_stV;(first|exact wr_p|kernel_rfl);eq_refl;eq_refl;eq_refl;eq_refl;(repeat first|exact Upd.here|apply Upd.there|apply Upd.skip);infer_instance;infer_instance;eq_refl;omega;(try simp only [List.length_set, List.length_append, List.length_replicate]);omega))
      exact ⟨(i + 1, _), (by repeat first | exact trivial | refine ⟨rfl, ?_⟩), (by repeat first | exact Wk.nil | exact Wk.refl | (apply Wk.cons; (focus ((repeat first | exact Rem.here | apply Rem.there | apply Rem.skip); done))) | apply Wk.nilv | apply Wk.last | apply Wk.drop), ⟨hlt, hst⟩, by simp only; omega⟩
    · rw [fillL_all hge, ← rsT_map] at hout
      repeat' (first
|(apply GC_seqK;intro K hK)
|(apply hK;clear hK K)
|(clear hK K;apply hK;clear hK K)
|(apply GC_region)
|(apply GL_nil)
|(apply thenG_normal)
|(apply thenG_exit)
|(apply blockG_hit)
|(apply GC_ret)
|(apply GC_exit)
|(apply GC_if_false;eq_refl)
|(apply retG2;eq_refl;eq_refl)
|(apply GL_on;eq_refl;eq_refl)
|(apply G_pv;eq_refl;first|exact trivial|omega)
|(apply G_field;eq_refl)
|(apply G_ld;eq_refl;(repeat first|exact In.here|apply In.there|apply In.skip);eq_refl)
|(apply G_cmpF;eq_refl;eq_refl;omega)
|(apply G_len;eq_refl))
      have e1 : c.latches.length = (rsT c).length := by unfold rsT; simp
      refine ⟨[.vec icell 1 3 (some ⟨b1, 0, none⟩) c.latches.length out], (by repeat first | exact Wk.nil | exact Wk.refl | (apply Wk.cons; (focus ((repeat first | exact Rem.here | apply Rem.there | apply Rem.skip); done))) | apply Wk.nilv | apply Wk.last | apply Wk.drop), some ⟨b1, 0, none⟩, c.latches.length, by rw [e1], by rw [hout]⟩
  · have e1 : trsM c = [] := if_neg he
    rw [e1]
    generalize (lookM c).2 = ε at *
    repeat' (first
|(apply G_call;eq_refl;eq_refl;(apply hck;(repeat first|exact In.here|apply In.there|apply In.skip));rintro _ _ ⟨rfl, rfl⟩)
|(apply GC_seqK;intro K hK)
|(apply hK;clear hK K)
|(apply GC_region)
|(apply GL_nil)
|(apply thenG_normal)
|(apply thenG_ret)
|(apply GC_ret)
|(apply GC_if_true;eq_refl)
|(apply retG2;eq_refl;eq_refl)
|(apply GL_on;eq_refl;eq_refl)
|(apply G_pv;eq_refl;first|exact trivial|omega)
|(apply G_ldW;eq_refl;(repeat first|exact In.here|apply In.there|apply In.skip);eq_refl)
|(apply G_cmpT;eq_refl;eq_refl;omega)
|(apply G_box;eq_refl;eq_refl;intro _))
    exact ⟨[.vec icell 1 3 none 0 []], (by repeat first | exact Wk.nil | exact Wk.refl | (apply Wk.cons; (focus ((repeat first | exact Rem.here | apply Rem.there | apply Rem.skip); done))) | apply Wk.nilv | apply Wk.last | apply Wk.drop), none, 0, rfl, rfl⟩
end SC
end Go.Proofs.YtclihihdgodloaaDoor
end
section
/- trestlebook: SameCnf, SpoilCnf; lists of numbers lent. -/
set_option linter.unusedVariables false
set_option linter.unusedSimpArgs false
namespace Go.Proofs.YtclihihdgodloaaDoor
namespace SC
open Go.Proofs
attribute [local irreducible] WC WL WX WS WO OX Does DoesU Enters CV Pure thenQ blockQ retQ Wants retQC GC GL GS GX RdB thenG blockG retG Rd At gt CVN CVM
set_option maxRecDepth 100000
end SC
end Go.Proofs.YtclihihdgodloaaDoor
end
section
/- Join, Lit of both; settling. -/
set_option linter.unusedVariables false
set_option linter.unusedSimpArgs false
namespace Go.Proofs.YtclihihdgodloaaDoor
namespace SC
open Go.Proofs
theorem jnE_row {a b : List Int} : (rowB a a.length && rowB b a.length) = (rowB a b.length && rowB b a.length) := by
  rw [Bool.eq_iff_iff, Bool.and_eq_true, Bool.and_eq_true, rowB_iff, rowB_iff, rowB_iff]
  constructor
  · rintro ⟨⟨_, h1⟩, h2, h3⟩
    exact ⟨⟨h2.symm, h1⟩, h2, h3⟩
  · rintro ⟨⟨_, h1⟩, h2, h3⟩
    exact ⟨⟨rfl, h1⟩, h2, h3⟩
theorem jnE_ok {a b : List Int} (h1 : a.length ≤ 16384) (h2 : b.length = a.length) (h3 : Row3 a) (h4 : Row3 b) : jnE a b = 0 := by
  unfold jnE
  rw [if_neg (by omega), if_pos (by rw [Bool.and_eq_true, rowB_iff, rowB_iff]; exact ⟨⟨h2.symm, h3⟩, h2, h4⟩)]
theorem cloneI_cv {w : World} {A : Option Addr} {k : Nat} {l : List Int} (hA : RowA w icell 1 A l) (hb : l.length ≤ 17592186044000) : CVN Tryd.prog 44 [.slice A l.length k] w fun v N => ∃ A' k', v = .slice A' l.length k' ∧ N = [.vec icell 1 3 A' k' l] :=
  CV.mono (clone85_cv (cells := l.flatMap icell) (c := k) (fun p hp => hA.cells ilen (by decide) hp) (fun h => by subst h; exact hA.nil_of) (by rw [length_flatMap2 icell 1 ilen]) (cell1_icell l) (by omega)) fun v w' ⟨h1, h2⟩ => by
    obtain ⟨A', k', rfl, M⟩ := own_vec h1 h2
    exact ⟨_, M, A', k', rfl, rfl⟩
theorem equalIntsG {w : World} {A B : Option Addr} {c d : Nat} {l m : List Int} (R : RowA w icell 1 A l) (R' : RowA w icell 1 B m) (hl : l.length ≤ 9223372036854775807) (hm : m.length ≤ 9223372036854775807) : CVN Tryd.prog 53 [.slice A l.length c, .slice B m.length d] w fun v N => N = [] ∧ v = .bool (decide (l = m)) :=
  CVN.of (equalInts_cv R R' hl hm) fun v w' h => ⟨h.2, h.1⟩
/-- Where it settles. -/
theorem least {p : Nat → Prop} : ∀ n : Nat, p n → ∃ k, p k ∧ ∀ i < k, ¬ p i := by
  intro n
  induction n using Nat.strongRecOn with
  | _ n ih =>
    intro h
    by_cases hex : ∃ i < n, p i
    · obtain ⟨i, hi, hp⟩ := hex
      exact ih i hi hp
    · exact ⟨n, h, fun i hi hp => hex ⟨i, hi, hp⟩⟩
theorem nS_ex (c : Circ) : ∃ k, setT c (stT c k) = stT c k ∧ ∀ i < k, ¬ setT c (stT c i) = stT c i := by
  obtain ⟨n, hn⟩ := stT_ends c
  exact least n hn
noncomputable def nS (c : Circ) : Nat := Classical.choose (nS_ex c)
theorem nS_fix (c : Circ) : setT c (stT c (nS c)) = stT c (nS c) := (Classical.choose_spec (nS_ex c)).1
theorem nS_not (c : Circ) {i : Nat} (h : i < nS c) : ¬ setT c (stT c i) = stT c i := (Classical.choose_spec (nS_ex c)).2 i h
theorem nS_le (c : Circ) : nS c ≤ c.latches.length := by
  have h1 := stT_opn c (nS c) fun k hk => nS_not c hk
  have h2 := opn_le (stT c (nS c))
  rw [stT_len] at h2
  omega
noncomputable def sM (c : Circ) : List Int := if (lookM c).2 = 0 then stT c (nS c) else []
noncomputable def sN (c : Circ) : Int := if (lookM c).2 = 0 then (nS c : Int) else 0
def SetV (c : Circ) (v : Value) (N : Mm) : Prop := ∃ A k, v = .tuple #[.slice A (sM c).length k, nu (sN c), nu (lookM c).2] ∧ N = [.vec icell 1 3 A k (sM c)]
attribute [local irreducible] WC WL WX WS WO OX Does DoesU Enters CV Pure thenQ blockQ retQ Wants retQC GC GL GS GX RdB thenG blockG retG Rd At gt CVN CVM
set_option maxRecDepth 100000
theorem join3_cv {w : World} {A B : Option Addr} {k k2 : Nat} {a b : List Int} (hA : RowA w icell 1 A a) (hB : RowA w icell 1 B b) (hl : b.length = a.length) (hn : a.length ≤ 16384) : CVN Tryd.prog 51 [.slice A a.length k, .slice B b.length k2] w fun v N => ∃ A' k', v = .slice A' (joinT a b).length k' ∧ N = [.vec icell 1 3 A' k' (joinT a b)] := by
  have hcl : ∀ Γ, In Γ (.old w none_) → ∀ w', Mem w' Γ → CVN Tryd.prog 44 [.slice A a.length k] w' _ := fun Γ hi w' M => cloneI_cv (hA.chg (hi.old M)) (by omega)
  refine CVN.enter 28 [4] Tryd.func51 rfl rfl rfl (by decide) rfl ?_
  repeat' (first
|(apply G_call;eq_refl;eq_refl;(apply hcl;(repeat first|exact In.here|apply In.there|apply In.skip));rintro _ _ ⟨A1, k1, rfl, rfl⟩)
|(apply GC_seqK;intro K hK)
|(apply hK;clear hK K)
|(apply GC_block)
|(apply GC_region)
|(apply GL_nil)
|(apply thenG_normal)
|(apply GL_on;eq_refl;eq_refl)
|(apply G_pv;eq_refl;first|exact trivial|omega)
|(apply G_len;eq_refl))
  refine GC_loopK [1, 5, 10] (fun i : Nat => [(11, nu i)]) (fun i => [.vec icell 1 3 A1 k1 ((joinT a b).take i ++ a.drop i), .old w none_]) (fun i => i ≤ a.length) (fun i => a.length - i) 0 (by repeat first | exact Pick.nil | (apply Pick.cons; eq_refl)) (by repeat first | exact trivial | refine ⟨rfl, ?_⟩) (by repeat first | exact Wk.nil | exact Wk.refl | (apply Wk.cons; (focus ((repeat first | exact Rem.here | apply Rem.there | apply Rem.skip); done))) | apply Wk.nilv | apply Wk.last | apply Wk.drop) (Nat.zero_le _) ?_
  intro i hi
  have hlen := joinG_len (b := b) hi
  rcases Nat.lt_or_ge i a.length with hlt | hge
  · have e1 := joinG (b := b) hlt
    by_cases he : gt a (i : Int) = gt b (i : Int)
    · have e2 := joinT_keep hlt he
      generalize hL : (joinT a b).take i ++ a.drop i = L at *
      rw [← e1] at he
      repeat' (first
|(apply GC_seqK;intro K hK)
|(apply hK;clear hK K)
|(apply GC_block)
|(apply GC_region)
|(apply GL_nil)
|(apply thenG_normal)
|(apply blockG_normal)
|(apply GC_skip)
|(apply GC_if_true;eq_refl)
|(apply GC_if_false;eq_refl)
|(apply GL_on;eq_refl;eq_refl)
|(refine GC_draws (id := 5) [.q 0, .q 1, .q 2, .q 3, .q 4, .q 5, .q 6, .q 7, .q 8] mixed (by kernel_rfl) (by kernel_rfl) ?_)
|(apply GS_nil)
|(apply GS_qon;eq_refl;eq_refl;eq_refl;eq_refl)
|(apply G_pv;eq_refl;first|exact trivial|omega)
|(apply G_rd;eq_refl;(first|(apply Rd.own;(repeat first|exact In.here|apply In.there|apply In.skip);infer_instance)|(apply Rd.old;(repeat first|exact In.here|apply In.there|apply In.skip);assumption)|(apply Rd.oldR;(repeat first|exact In.here|apply In.there|apply In.skip);assumption)|exact Rd.nil|assumption);(case ih => infer_instance);omega;omega;eq_refl)
|(apply G_cmpT;eq_refl;eq_refl;omega)
|(apply G_cmpF;eq_refl;eq_refl;omega)
|(apply G_ix;eq_refl;eq_refl;(first|(apply Rd.own;(repeat first|exact In.here|apply In.there|apply In.skip);infer_instance)|(apply Rd.old;(repeat first|exact In.here|apply In.there|apply In.skip);assumption)|(apply Rd.oldR;(repeat first|exact In.here|apply In.there|apply In.skip);assumption)|exact Rd.nil|assumption);(first|eq_refl|omega);omega;omega))
      rw [e2]
      exact ⟨i + 1, (by repeat first | exact trivial | refine ⟨rfl, ?_⟩), (by repeat first | exact Wk.nil | exact Wk.refl | (apply Wk.cons; (focus ((repeat first | exact Rem.here | apply Rem.there | apply Rem.skip); done))) | apply Wk.nilv | apply Wk.last | apply Wk.drop), hlt, by omega⟩
    · have e2 := joinT_fill (b := b) hlt
      rw [if_neg he] at e2
      generalize hL : (joinT a b).take i ++ a.drop i = L at *
      rw [← e1] at he
      repeat' (first
|(apply GC_seqK;intro K hK)
|(apply hK;clear hK K)
|(apply GC_block)
|(apply GC_region)
|(apply GL_nil)
|(apply thenG_normal)
|(apply blockG_normal)
|(apply GC_skip)
|(apply GC_if_true;eq_refl)
|(apply GL_on;eq_refl;eq_refl)
|(refine GC_draws (id := 5) [.q 0, .q 1, .q 2, .q 3, .q 4, .q 5, .q 6, .q 7, .q 8] mixed (by kernel_rfl) (by kernel_rfl) ?_)
|(apply GS_nil)
|(apply GS_qon;eq_refl;eq_refl;eq_refl;eq_refl)
|(apply G_pv;eq_refl;first|exact trivial|omega)
|(apply G_rd;eq_refl;(first|(apply Rd.own;(repeat first|exact In.here|apply In.there|apply In.skip);infer_instance)|(apply Rd.old;(repeat first|exact In.here|apply In.there|apply In.skip);assumption)|(apply Rd.oldR;(repeat first|exact In.here|apply In.there|apply In.skip);assumption)|exact Rd.nil|assumption);(case ih => infer_instance);omega;omega;eq_refl)
|(apply G_cmpT;eq_refl;eq_refl;omega)
|(apply G_ix;eq_refl;eq_refl;(first|(apply Rd.own;(repeat first|exact In.here|apply In.there|apply In.skip);infer_instance)|(apply Rd.old;(repeat first|exact In.here|apply In.there|apply In.skip);assumption)|(apply Rd.oldR;(repeat first|exact In.here|apply In.there|apply In.skip);assumption)|exact Rd.nil|assumption);(first|eq_refl|omega);omega;omega)
|(apply G_stV;(first|exact wr_p|kernel_rfl);eq_refl;eq_refl;eq_refl;eq_refl;(repeat first|exact Upd.here|apply Upd.there|apply Upd.skip);infer_instance;infer_instance;eq_refl;omega;(try simp only [List.length_set, List.length_append, List.length_replicate]);omega))
      rw [e2]
      exact ⟨i + 1, (by repeat first | exact trivial | refine ⟨rfl, ?_⟩), (by repeat first | exact Wk.nil | exact Wk.refl | (apply Wk.cons; (focus ((repeat first | exact Rem.here | apply Rem.there | apply Rem.skip); done))) | apply Wk.nilv | apply Wk.last | apply Wk.drop), hlt, by omega⟩
  · obtain rfl : i = a.length := by omega
    have e3 : (joinT a b).take a.length ++ a.drop a.length = joinT a b := by rw [List.drop_length, List.append_nil, List.take_of_length_le (by rw [joinT_len]; exact Nat.le_refl _)]
    rw [e3]
    repeat' (first
|(apply GC_seqK;intro K hK)
|(apply hK;clear hK K)
|(clear hK K;apply hK;clear hK K)
|(apply GC_region)
|(apply GL_nil)
|(apply thenG_normal)
|(apply thenG_exit)
|(apply blockG_hit)
|(apply GC_ret)
|(apply GC_exit)
|(apply GC_if_false;eq_refl)
|(apply retG1;eq_refl)
|(apply GL_on;eq_refl;eq_refl)
|(apply G_pv;eq_refl;first|exact trivial|omega)
|(apply G_cmpF;eq_refl;eq_refl;omega))
    exact ⟨[.vec icell 1 3 A1 k1 (joinT a b)], (by repeat first | exact Wk.nil | exact Wk.refl | (apply Wk.cons; (focus ((repeat first | exact Rem.here | apply Rem.there | apply Rem.skip); done))) | apply Wk.nilv | apply Wk.last | apply Wk.drop), A1, k1, by rw [joinT_len], rfl⟩
theorem JoinR_cv {w : World} {A B : Option Addr} {k k2 : Nat} {a b : List Int} (hA : RowA w icell 1 A a) (hB : RowA w icell 1 B b) (h1 : a.length ≤ 9223372036854775807) (h2 : b.length ≤ 9223372036854775807) : CVN Tryd.prog 31 [.slice A a.length k, .slice B b.length k2] w (IntsE (jnM a b) (jnE a b)) := by
  have hr1 : ∀ Γ, In Γ (.old w none_) → ∀ w', Mem w' Γ → CVN Tryd.prog 58 [.slice A a.length k, nu a.length] w' _ := fun Γ hi w' M => row8_cv (hA.chg (hi.old M)) h1
  have hr2 : ∀ Γ, In Γ (.old w none_) → ∀ w', Mem w' Γ → CVN Tryd.prog 58 [.slice B b.length k2, nu a.length] w' _ := fun Γ hi w' M => row8_cv (hB.chg (hi.old M)) h2
  have hjr := jnE_row (a := a) (b := b)
  unfold IntsE
  refine CVN.enter 57 [4, 5] Tryd.func31 rfl rfl rfl (by decide) rfl ?_
  by_cases hb : 16384 < a.length ∨ 16384 < b.length
  · have e0 : jnE a b = 2 := by unfold jnE; rw [if_pos hb]
    have e1 : jnM a b = [] := if_neg (by rw [e0]; decide)
    rw [e0, e1]
    by_cases ha : 16384 < a.length
    · repeat' (first
|(apply GC_seqK;intro K hK)
|(apply hK;clear hK K)
|(apply GC_region)
|(apply GL_nil)
|(apply thenG_normal)
|(apply thenG_ret)
|(apply GC_ret)
|(apply GC_if_true;eq_refl)
|(apply retG2;eq_refl;eq_refl)
|(apply GL_on;eq_refl;eq_refl)
|(apply GL_off;eq_refl;eq_refl)
|(apply G_pv;eq_refl;first|exact trivial|omega)
|(apply G_cmpT;eq_refl;eq_refl;omega)
|(apply G_len;eq_refl))
      exact ⟨[.vec icell 1 3 none 0 []], (by repeat first | exact Wk.nil | exact Wk.refl | (apply Wk.cons; (focus ((repeat first | exact Rem.here | apply Rem.there | apply Rem.skip); done))) | apply Wk.nilv | apply Wk.last | apply Wk.drop), none, 0, rfl, rfl⟩
    · repeat' (first
|(apply GC_seqK;intro K hK)
|(apply hK;clear hK K)
|(apply GC_region)
|(apply GL_nil)
|(apply thenG_normal)
|(apply thenG_ret)
|(apply GC_ret)
|(apply GC_if_true;eq_refl)
|(apply retG2;eq_refl;eq_refl)
|(apply GL_on;eq_refl;eq_refl)
|(apply G_pv;eq_refl;first|exact trivial|omega)
|(apply G_cmpT;eq_refl;eq_refl;omega)
|(apply G_cmpF;eq_refl;eq_refl;omega)
|(apply G_len;eq_refl))
      exact ⟨[.vec icell 1 3 none 0 []], (by repeat first | exact Wk.nil | exact Wk.refl | (apply Wk.cons; (focus ((repeat first | exact Rem.here | apply Rem.there | apply Rem.skip); done))) | apply Wk.nilv | apply Wk.last | apply Wk.drop), none, 0, rfl, rfl⟩
  · cases q1 : rowB a a.length
    · have e0 : jnE a b = 80 := by unfold jnE; rw [if_neg hb, ← hjr, q1, if_neg (by simp)]
      have e1 : jnM a b = [] := if_neg (by rw [e0]; decide)
      rw [q1] at hr1
      rw [e0, e1]
      repeat' (first
|(apply G_call;eq_refl;eq_refl;(apply hr1;(repeat first|exact In.here|apply In.there|apply In.skip));rintro _ _ ⟨rfl, rfl⟩)
|(apply GC_seqK;intro K hK)
|(apply hK;clear hK K)
|(apply GC_region)
|(apply GL_nil)
|(apply thenG_normal)
|(apply thenG_ret)
|(apply GC_ret)
|(apply GC_skip)
|(apply GC_if_true;eq_refl)
|(apply GC_if_false;eq_refl)
|(apply retG2;eq_refl;eq_refl)
|(apply GL_on;eq_refl;eq_refl)
|(apply GL_off;eq_refl;eq_refl)
|(apply G_pv;eq_refl;first|exact trivial|omega)
|(apply G_cmpF;eq_refl;eq_refl;omega)
|(apply G_len;eq_refl))
      exact ⟨[.vec icell 1 3 none 0 []], (by repeat first | exact Wk.nil | exact Wk.refl | (apply Wk.cons; (focus ((repeat first | exact Rem.here | apply Rem.there | apply Rem.skip); done))) | apply Wk.nilv | apply Wk.last | apply Wk.drop), none, 0, rfl, rfl⟩
    · rw [q1] at hr1
      cases q2 : rowB b a.length
      · have e0 : jnE a b = 80 := by unfold jnE; rw [if_neg hb, ← hjr, q1, q2, if_neg (by decide)]
        have e1 : jnM a b = [] := if_neg (by rw [e0]; decide)
        rw [q2] at hr2
        rw [e0, e1]
        repeat' (first
|(apply G_call;eq_refl;eq_refl;(apply hr1;(repeat first|exact In.here|apply In.there|apply In.skip));rintro _ _ ⟨rfl, rfl⟩)
|(apply G_call;eq_refl;eq_refl;(apply hr2;(repeat first|exact In.here|apply In.there|apply In.skip));rintro _ _ ⟨rfl, rfl⟩)
|(apply GC_seqK;intro K hK)
|(apply hK;clear hK K)
|(apply GC_region)
|(apply GL_nil)
|(apply thenG_normal)
|(apply thenG_ret)
|(apply GC_ret)
|(apply GC_skip)
|(apply GC_if_true;eq_refl)
|(apply GC_if_false;eq_refl)
|(apply retG2;eq_refl;eq_refl)
|(apply GL_on;eq_refl;eq_refl)
|(apply G_pv;eq_refl;first|exact trivial|omega)
|(apply G_cmpF;eq_refl;eq_refl;omega)
|(apply G_len;eq_refl))
        exact ⟨[.vec icell 1 3 none 0 []], (by repeat first | exact Wk.nil | exact Wk.refl | (apply Wk.cons; (focus ((repeat first | exact Rem.here | apply Rem.there | apply Rem.skip); done))) | apply Wk.nilv | apply Wk.last | apply Wk.drop), none, 0, rfl, rfl⟩
      · have e0 : jnE a b = 0 := by unfold jnE; rw [if_neg hb, ← hjr, q1, q2, if_pos (by decide)]
        have e1 : jnM a b = joinT a b := if_pos e0
        have hl := (rowB_iff.1 q2).1
        rw [q2] at hr2
        rw [e0, e1]
        clear e0 e1
        have fl0 : fillL (fun i : Nat => if gt a (i : Int) = gt b (i : Int) then gt a (i : Int) else 2) (List.range a.length) 0 0 = List.replicate a.length 0 := by rw [fillL_0, List.length_range]
        repeat' (first
|(apply G_call;eq_refl;eq_refl;(apply hr1;(repeat first|exact In.here|apply In.there|apply In.skip));rintro _ _ ⟨rfl, rfl⟩)
|(apply G_call;eq_refl;eq_refl;(apply hr2;(repeat first|exact In.here|apply In.there|apply In.skip));rintro _ _ ⟨rfl, rfl⟩)
|(apply G_make icell;eq_refl;eq_refl;eq_refl;omega;decide;intro b1)
|(apply GC_seqK;intro K hK)
|(apply hK;clear hK K)
|(apply GC_block)
|(apply GC_region)
|(apply GL_nil)
|(apply thenG_normal)
|(apply GC_skip)
|(apply GC_if_false;eq_refl)
|(apply GL_on;eq_refl;eq_refl)
|(apply G_pv;eq_refl;first|exact trivial|omega)
|(apply G_cmpF;eq_refl;eq_refl;omega)
|(apply G_len;eq_refl))
        refine GC_loopK [0, 1, 6] (fun s : Nat × List Int => [(7, nu s.1)]) (fun s => [.vec icell 1 3 (some ⟨b1, 0, none⟩) a.length s.2, .old w none_]) (fun s => s.1 ≤ a.length ∧ s.2 = fillL (fun i : Nat => if gt a (i : Int) = gt b (i : Int) then gt a (i : Int) else 2) (List.range a.length) 0 s.1) (fun s => a.length - s.1) (0, List.replicate a.length 0) (by repeat first | exact Pick.nil | (apply Pick.cons; eq_refl)) (by repeat first | exact trivial | refine ⟨rfl, ?_⟩) (by repeat first | exact Wk.nil | exact Wk.refl | (apply Wk.cons; (focus ((repeat first | exact Rem.here | apply Rem.there | apply Rem.skip); done))) | apply Wk.nilv | apply Wk.last | apply Wk.drop) ⟨Nat.zero_le _, fl0.symm⟩ ?_
        rintro ⟨i, out⟩ ⟨hi, hout⟩
        dsimp only at hi hout ⊢
        have hlen : out.length = a.length := by rw [hout, fillL_len (by rw [List.length_range]; exact hi), List.length_range]
        rcases Nat.lt_or_ge i a.length with hlt | hge
        · have hst := fillL_set (f := fun i : Nat => if gt a (i : Int) = gt b (i : Int) then gt a (i : Int) else 2) (z := (0 : Int)) (l := List.range a.length) (i := i) (by rw [List.length_range]; exact hlt)
          rw [← hout, show gt (List.range a.length) (i : Int) = i by rw [gt_nat (by rw [List.length_range]; exact hlt), List.getElem_range]] at hst
          have hl2 : (out.set (i : Int).toNat 2).length = a.length := by rw [List.length_set]; exact hlen
          by_cases he : gt a (i : Int) = gt b (i : Int)
          · rw [if_pos he] at hst
            repeat' (first
|(apply GC_seqK;intro K hK)
|(apply hK;clear hK K)
|(apply GC_block)
|(apply GC_region)
|(apply GL_nil)
|(apply thenG_normal)
|(apply blockG_normal)
|(apply GC_skip)
|(apply GC_if_true;eq_refl)
|(apply GL_on;eq_refl;eq_refl)
|(refine GC_draws (id := 10) [.q 0, .q 1, .q 2, .q 3, .q 4, .q 5, .q 6, .q 7, .q 8] mixed (by kernel_rfl) (by kernel_rfl) ?_)
|(apply GS_nil)
|(apply GS_qon;eq_refl;eq_refl;eq_refl;eq_refl)
|(apply G_pv;eq_refl;first|exact trivial|omega)
|(apply G_rd;eq_refl;(first|(apply Rd.own;(repeat first|exact In.here|apply In.there|apply In.skip);infer_instance)|(apply Rd.old;(repeat first|exact In.here|apply In.there|apply In.skip);assumption)|(apply Rd.oldR;(repeat first|exact In.here|apply In.there|apply In.skip);assumption)|exact Rd.nil|assumption);(case ih => infer_instance);omega;omega;eq_refl)
|(apply G_cmpT;eq_refl;eq_refl;omega)
|(apply G_len;eq_refl)
|(apply G_ix;eq_refl;eq_refl;(first|(apply Rd.own;(repeat first|exact In.here|apply In.there|apply In.skip);infer_instance)|(apply Rd.old;(repeat first|exact In.here|apply In.there|apply In.skip);assumption)|(apply Rd.oldR;(repeat first|exact In.here|apply In.there|apply In.skip);assumption)|exact Rd.nil|assumption);(first|eq_refl|omega);omega;omega)
|(apply G_stV;(first|exact wr_p|kernel_rfl);eq_refl;eq_refl;eq_refl;eq_refl;(repeat first|exact Upd.here|apply Upd.there|apply Upd.skip);infer_instance;infer_instance;eq_refl;omega;(try simp only [List.length_set, List.length_append, List.length_replicate]);omega))
            exact ⟨(i + 1, _), (by repeat first | exact trivial | refine ⟨rfl, ?_⟩), (by repeat first | exact Wk.nil | exact Wk.refl | (apply Wk.cons; (focus ((repeat first | exact Rem.here | apply Rem.there | apply Rem.skip); done))) | apply Wk.nilv | apply Wk.last | apply Wk.drop), ⟨hlt, by rw [List.set_set]; exact hst⟩, by simp only; omega⟩
          · rw [if_neg he] at hst
            repeat' (first
|(apply GC_seqK;intro K hK)
|(apply hK;clear hK K)
|(apply GC_block)
|(apply GC_region)
|(apply GL_nil)
|(apply thenG_normal)
|(apply blockG_normal)
|(apply GC_skip)
|(apply GC_if_true;eq_refl)
|(apply GC_if_false;eq_refl)
|(apply GL_on;eq_refl;eq_refl)
|(refine GC_draws (id := 10) [.q 0, .q 1, .q 2, .q 3, .q 4, .q 5, .q 6, .q 7, .q 8] mixed (by kernel_rfl) (by kernel_rfl) ?_)
|(apply GS_nil)
|(apply GS_qon;eq_refl;eq_refl;eq_refl;eq_refl)
|(apply G_pv;eq_refl;first|exact trivial|omega)
|(apply G_rd;eq_refl;(first|(apply Rd.own;(repeat first|exact In.here|apply In.there|apply In.skip);infer_instance)|(apply Rd.old;(repeat first|exact In.here|apply In.there|apply In.skip);assumption)|(apply Rd.oldR;(repeat first|exact In.here|apply In.there|apply In.skip);assumption)|exact Rd.nil|assumption);(case ih => infer_instance);omega;omega;eq_refl)
|(apply G_cmpT;eq_refl;eq_refl;omega)
|(apply G_cmpF;eq_refl;eq_refl;omega)
|(apply G_len;eq_refl)
|(apply G_ix;eq_refl;eq_refl;(first|(apply Rd.own;(repeat first|exact In.here|apply In.there|apply In.skip);infer_instance)|(apply Rd.old;(repeat first|exact In.here|apply In.there|apply In.skip);assumption)|(apply Rd.oldR;(repeat first|exact In.here|apply In.there|apply In.skip);assumption)|exact Rd.nil|assumption);(first|eq_refl|omega);omega;omega)
|(apply G_stV;(first|exact wr_p|kernel_rfl);eq_refl;eq_refl;eq_refl;eq_refl;(repeat first|exact Upd.here|apply Upd.there|apply Upd.skip);infer_instance;infer_instance;eq_refl;omega;(try simp only [List.length_set, List.length_append, List.length_replicate]);omega))
            exact ⟨(i + 1, _), (by repeat first | exact trivial | refine ⟨rfl, ?_⟩), (by repeat first | exact Wk.nil | exact Wk.refl | (apply Wk.cons; (focus ((repeat first | exact Rem.here | apply Rem.there | apply Rem.skip); done))) | apply Wk.nilv | apply Wk.last | apply Wk.drop), ⟨hlt, hst⟩, by simp only; omega⟩
        · obtain rfl : i = a.length := by omega
          rw [fillL_all (by rw [List.length_range]; exact Nat.le_refl _)] at hout
          obtain rfl : out = joinT a b := hout
          repeat' (first
|(apply GC_seqK;intro K hK)
|(apply hK;clear hK K)
|(clear hK K;apply hK;clear hK K)
|(apply GC_region)
|(apply GL_nil)
|(apply thenG_normal)
|(apply thenG_exit)
|(apply blockG_hit)
|(apply GC_ret)
|(apply GC_exit)
|(apply GC_if_false;eq_refl)
|(apply retG2;eq_refl;eq_refl)
|(apply GL_on;eq_refl;eq_refl)
|(apply G_pv;eq_refl;first|exact trivial|omega)
|(apply G_cmpF;eq_refl;eq_refl;omega)
|(apply G_len;eq_refl))
          exact ⟨[.vec icell 1 3 (some ⟨b1, 0, none⟩) a.length (joinT a b)], (by repeat first | exact Wk.nil | exact Wk.refl | (apply Wk.cons; (focus ((repeat first | exact Rem.here | apply Rem.there | apply Rem.skip); done))) | apply Wk.nilv | apply Wk.last | apply Wk.drop), some ⟨b1, 0, none⟩, a.length, by rw [joinT_len], rfl⟩
theorem same8_cv {w : World} {A B : Option Addr} {k k2 : Nat} {a b : List Int} (hA : RowA w icell 1 A a) (hB : RowA w icell 1 B b) (hl : b.length = a.length) (hn : a.length ≤ 16384) : CVN Tryd.prog 54 [.slice A a.length k, .slice B b.length k2] w fun v N => N = [] ∧ v = .bool (decide (a = b)) := by
  refine CVN.enter 21 [4] Tryd.func54 rfl rfl rfl (by decide) rfl ?_
  repeat' (first
|(apply GC_seqK;intro K hK)
|(apply hK;clear hK K)
|(apply GC_block)
|(apply GC_region)
|(apply GL_nil)
|(apply thenG_normal)
|(apply GL_on;eq_refl;eq_refl)
|(apply G_pv;eq_refl;first|exact trivial|omega))
  refine GC_loopK [0, 1] (fun i : Nat => [(5, nu i)]) (fun _ => [.old w none_]) (fun i => i ≤ a.length ∧ ∀ j < i, gt a (j : Int) = gt b (j : Int)) (fun i => a.length - i) 0 (by repeat first | exact Pick.nil | (apply Pick.cons; eq_refl)) (by repeat first | exact trivial | refine ⟨rfl, ?_⟩) (by repeat first | exact Wk.nil | exact Wk.refl | (apply Wk.cons; (focus ((repeat first | exact Rem.here | apply Rem.there | apply Rem.skip); done))) | apply Wk.nilv | apply Wk.last | apply Wk.drop) ⟨Nat.zero_le _, fun j hj => absurd hj (Nat.not_lt_zero _)⟩ ?_
  rintro i ⟨hi, hall⟩
  rcases Nat.lt_or_ge i a.length with hlt | hge
  · by_cases he : gt a (i : Int) = gt b (i : Int)
    · repeat' (first
|(apply GC_seqK;intro K hK)
|(apply hK;clear hK K)
|(apply GC_block)
|(apply GC_region)
|(apply GL_nil)
|(apply thenG_normal)
|(apply blockG_normal)
|(apply GC_skip)
|(apply GC_if_true;eq_refl)
|(apply GC_if_false;eq_refl)
|(apply GL_on;eq_refl;eq_refl)
|(refine GC_draws (id := 4) [.q 0, .q 1, .q 2, .q 3, .q 4, .q 5, .q 6, .q 7, .q 8] mixed (by kernel_rfl) (by kernel_rfl) ?_)
|(apply GS_nil)
|(apply GS_qon;eq_refl;eq_refl;eq_refl;eq_refl)
|(apply G_pv;eq_refl;first|exact trivial|omega)
|(apply G_rd;eq_refl;(first|(apply Rd.own;(repeat first|exact In.here|apply In.there|apply In.skip);infer_instance)|(apply Rd.old;(repeat first|exact In.here|apply In.there|apply In.skip);assumption)|(apply Rd.oldR;(repeat first|exact In.here|apply In.there|apply In.skip);assumption)|exact Rd.nil|assumption);(case ih => infer_instance);omega;omega;eq_refl)
|(apply G_cmpT;eq_refl;eq_refl;omega)
|(apply G_cmpF;eq_refl;eq_refl;omega)
|(apply G_len;eq_refl)
|(apply G_ix;eq_refl;eq_refl;(first|(apply Rd.own;(repeat first|exact In.here|apply In.there|apply In.skip);infer_instance)|(apply Rd.old;(repeat first|exact In.here|apply In.there|apply In.skip);assumption)|(apply Rd.oldR;(repeat first|exact In.here|apply In.there|apply In.skip);assumption)|exact Rd.nil|assumption);(first|eq_refl|omega);omega;omega))
      exact ⟨i + 1, (by repeat first | exact trivial | refine ⟨rfl, ?_⟩), (by repeat first | exact Wk.nil | exact Wk.refl | (apply Wk.cons; (focus ((repeat first | exact Rem.here | apply Rem.there | apply Rem.skip); done))) | apply Wk.nilv | apply Wk.last | apply Wk.drop), ⟨hlt, fun j hj => by
        rcases Nat.lt_or_ge j i with h | h
        · exact hall j h
        · obtain rfl : j = i := by omega
          exact he⟩, by omega⟩
    · have hf : decide (a = b) = false := decide_eq_false fun e => he (by rw [e])
      repeat' (first
|(apply GC_seqK;intro K hK)
|(apply hK;clear hK K)
|(apply GC_block)
|(apply GC_region)
|(apply GL_nil)
|(apply thenG_normal)
|(apply thenG_ret)
|(apply blockG_ret)
|(apply GC_ret)
|(apply GC_skip)
|(apply GC_if_true;eq_refl)
|(apply retG1;eq_refl)
|(apply GL_on;eq_refl;eq_refl)
|(refine GC_draws (id := 4) [.q 0, .q 1, .q 2, .q 3, .q 4, .q 5, .q 6, .q 7, .q 8] mixed (by kernel_rfl) (by kernel_rfl) ?_)
|(apply GS_nil)
|(apply GS_qon;eq_refl;eq_refl;eq_refl;eq_refl)
|(apply G_pv;eq_refl;first|exact trivial|omega)
|(apply G_rd;eq_refl;(first|(apply Rd.own;(repeat first|exact In.here|apply In.there|apply In.skip);infer_instance)|(apply Rd.old;(repeat first|exact In.here|apply In.there|apply In.skip);assumption)|(apply Rd.oldR;(repeat first|exact In.here|apply In.there|apply In.skip);assumption)|exact Rd.nil|assumption);(case ih => infer_instance);omega;omega;eq_refl)
|(apply G_cmpT;eq_refl;eq_refl;omega)
|(apply G_len;eq_refl)
|(apply G_ix;eq_refl;eq_refl;(first|(apply Rd.own;(repeat first|exact In.here|apply In.there|apply In.skip);infer_instance)|(apply Rd.old;(repeat first|exact In.here|apply In.there|apply In.skip);assumption)|(apply Rd.oldR;(repeat first|exact In.here|apply In.there|apply In.skip);assumption)|exact Rd.nil|assumption);(first|eq_refl|omega);omega;omega))
      exact ⟨[], (by repeat first | exact Wk.nil | exact Wk.refl | (apply Wk.cons; (focus ((repeat first | exact Rem.here | apply Rem.there | apply Rem.skip); done))) | apply Wk.nilv | apply Wk.last | apply Wk.drop), rfl, by rw [hf]⟩
  · have ht : decide (a = b) = true := decide_eq_true (row_ext hl.symm fun j hj => hall j (by omega))
    repeat' (first
|(apply GC_seqK;intro K hK)
|(apply hK;clear hK K)
|(clear hK K;apply hK;clear hK K)
|(apply GC_region)
|(apply GL_nil)
|(apply thenG_normal)
|(apply thenG_exit)
|(apply blockG_hit)
|(apply GC_ret)
|(apply GC_exit)
|(apply GC_if_false;eq_refl)
|(apply retG1;eq_refl)
|(apply GL_on;eq_refl;eq_refl)
|(apply G_pv;eq_refl;first|exact trivial|omega)
|(apply G_cmpF;eq_refl;eq_refl;omega)
|(apply G_len;eq_refl))
    exact ⟨[], (by repeat first | exact Wk.nil | exact Wk.refl | (apply Wk.cons; (focus ((repeat first | exact Rem.here | apply Rem.there | apply Rem.skip); done))) | apply Wk.nilv | apply Wk.last | apply Wk.drop), rfl, by rw [ht]⟩
end SC
end Go.Proofs.YtclihihdgodloaaDoor
end
section
/- Three values: what they cover; what settles; what is lifted: the plain law. -/
set_option linter.unusedVariables false
set_option linter.unusedSimpArgs false
namespace Go.Proofs.YtclihihdgodloaaDoor
namespace SC
open Go.Proofs
theorem gt_set {α : Type} [Inhabited α] {l : List α} {i j : Nat} {x : α} (hi : i < l.length) : gt (l.set i x) (j : Int) = if j = i then x else gt l (j : Int) := by
  unfold gt
  simp only [Int.toNat_natCast]
  rw [List.getD_eq_getElem?_getD, List.getD_eq_getElem?_getD, List.getElem?_set]
  by_cases h : j = i
  · rw [if_pos h, if_pos h.symm, if_pos hi]
    rfl
  · rw [if_neg h, if_neg (fun e => h e.symm)]
theorem gt_setN {α : Type} [Inhabited α] {l : List α} {i j : Nat} {x : α} (hi : ¬ i < l.length) : gt (l.set i x) (j : Int) = gt l (j : Int) := by rw [List.set_eq_of_length_le (by omega)]
section
variable {c : Circ} (R : Right c)
include R
/-! ### runs are covered -/
omit R in
theorem open_row (n : Nat) : Row3 (List.replicate n 2) := fun x hx => by rw [(List.mem_replicate.1 hx).2]; exact ⟨by decide, by decide⟩
end
/-! ### opening more -/
/-! ### lifting -/
def onesT (v ls : List Int) : Bool := ls.all fun l => decide (tl v l = 1)
noncomputable def lfT (c : Circ) (s r ls : List Int) : Nat → List Int
  | 0 => s
  | i + 1 => if onesT (valT c ((lfT c s r ls i).set i 2) r) ls = true then (lfT c s r ls i).set i 2 else lfT c s r ls i
section
variable {c : Circ} {s r ls : List Int}
theorem lfT_len : ∀ i, (lfT c s r ls i).length = s.length
  | 0 => rfl
  | i + 1 => by
    unfold lfT
    split
    · rw [List.length_set, lfT_len i]
    · exact lfT_len i
theorem lfT_row (hs : Row3 s) : ∀ i, Row3 (lfT c s r ls i)
  | 0 => hs
  | i + 1 => by
    unfold lfT
    split
    · exact (lfT_row hs i).set ⟨by decide, by decide⟩
    · exact lfT_row hs i
theorem lfT_late : ∀ i k : Nat, i ≤ k → gt (lfT c s r ls i) (k : Int) = gt s (k : Int)
  | 0, _, _ => rfl
  | i + 1, k, h => by
    unfold lfT
    split
    · by_cases hi : i < (lfT c s r ls i).length
      · rw [gt_set hi, if_neg (by omega)]
        exact lfT_late i k (by omega)
      · rw [gt_setN hi]
        exact lfT_late i k (by omega)
    · exact lfT_late i k (by omega)
end
end SC
end Go.Proofs.YtclihihdgodloaaDoor
end
section
/- Settle, Lift of both. -/
set_option linter.unusedVariables false
set_option linter.unusedSimpArgs false
namespace Go.Proofs.YtclihihdgodloaaDoor
namespace SC
open Go.Proofs
theorem Is3.two : Is3 2 := ⟨by decide, by decide⟩
/-- What is wrong with what is to be lifted. -/
noncomputable def lfE (c : Circ) (s r ls : List Int) : Int := if twE c s r ≠ 0 then twE c s r else if 16384 < ls.length then 2 else if (ls.all fun l => decide (0 ≤ l) && decide (l ≤ 2 * c.max + 1)) = false then 1 else if onesT (valT c s r) ls = false then 81 else 0
noncomputable def lfM (c : Circ) (s r ls : List Int) : List Int := if lfE c s r ls = 0 then lfT c s r ls s.length else []
theorem lfE_tw {c : Circ} {s r ls : List Int} (h : twE c s r ≠ 0) : lfE c s r ls = twE c s r := if_pos h
theorem lfE_long {c : Circ} {s r ls : List Int} (h : twE c s r = 0) (h2 : 16384 < ls.length) : lfE c s r ls = 2 := by unfold lfE; rw [if_neg (by omega), if_pos h2]
theorem lfE_rg {c : Circ} {s r ls : List Int} (h : twE c s r = 0) (h2 : ¬ 16384 < ls.length) (h3 : (ls.all fun l => decide (0 ≤ l) && decide (l ≤ 2 * c.max + 1)) = false) : lfE c s r ls = 1 := by unfold lfE; rw [if_neg (by omega), if_neg h2, if_pos h3]
theorem lfE_no {c : Circ} {s r ls : List Int} (h : twE c s r = 0) (h2 : ¬ 16384 < ls.length) (h3 : (ls.all fun l => decide (0 ≤ l) && decide (l ≤ 2 * c.max + 1)) = true) (h4 : onesT (valT c s r) ls = false) : lfE c s r ls = 81 := by unfold lfE; rw [if_neg (by omega), if_neg h2, if_neg (by rw [h3]; decide), if_pos h4]
theorem lfE_ok {c : Circ} {s r ls : List Int} (h : twE c s r = 0) (h2 : ¬ 16384 < ls.length) (h3 : (ls.all fun l => decide (0 ≤ l) && decide (l ≤ 2 * c.max + 1)) = true) (h4 : onesT (valT c s r) ls = true) : lfE c s r ls = 0 := by unfold lfE; rw [if_neg (by omega), if_neg h2, if_neg (by rw [h3]; decide), if_neg (by rw [h4]; decide)]
theorem lits_in {c : Circ} {ls : List Int} (h : (ls.all fun l => decide (0 ≤ l) && decide (l ≤ 2 * c.max + 1)) = true) : ∀ l ∈ ls, inR c l := fun l hl => by
  rw [List.all_eq_true] at h
  have := h l hl
  rw [Bool.and_eq_true, decide_eq_true_iff, decide_eq_true_iff] at this
  exact this
theorem twE_of {c : Circ} {s r : List Int} (h : (lookM c).2 = 0) (h1 : s.length = c.latches.length) (h2 : r.length = c.inputs.length) (h3 : Row3 s) (h4 : Row3 r) : twE c s r = 0 := twE_ok h (rowB_iff.2 ⟨h1, h3⟩) (rowB_iff.2 ⟨h2, h4⟩)
attribute [local irreducible] WC WL WX WS WO OX Does DoesU Enters CV Pure thenQ blockQ retQ Wants retQC GC GL GS GX RdB thenG blockG retG Rd At gt CVN CVM
set_option maxRecDepth 100000
set_option maxHeartbeats 800000 in
theorem SettleP_cv {w : World} {c : Circ} {h js : Hd} (G : TabG w) (H : CirIn w c h js) : CVN Tryd.prog 19 [.agg (ccells c h).toArray] w (SetV c) := by
  have hrd : ∀ Γ, In Γ (.old w none_) → ∀ w', Mem w' Γ → CVN Tryd.prog 48 [.agg (ccells c h).toArray] w' (ReadyT c h) := fun Γ hi w' M => readyT_cv (H.chg (hi.old M))
  have hInp := H.at_.inputs
  unfold SetV
  refine CVN.enter 42 [2, 3, 4] Tryd.func19 rfl rfl rfl (by decide) rfl ?_
  by_cases he : (lookM c).2 = 0
  · have R := right_of H.at_ H.sane he
    have n1 := R.nIn
    have n2 := R.nLat
    have m0 := R.m0
    have hSl := nS_le c
    have e1 : sM c = stT c (nS c) := if_pos he
    have e2 : sN c = (nS c : Int) := if_pos he
    have hRep : ∀ Γ b, In Γ (.box b 3 [nu 2]) → ∀ w', Mem w' Γ → CVN Tryd.prog 49 [.slice (some ⟨b, 0, none⟩) 1 1, nu c.inputs.length] w' fun r N => ∃ b, r = .slice (some ⟨b, 0, none⟩) (List.replicate c.inputs.length (2 : Int)).length c.inputs.length ∧ N = [.vec icell 1 3 (some ⟨b, 0, none⟩) c.inputs.length (List.replicate c.inputs.length 2)] := fun Γ b hi w' M => Repeat_cv (k := 1) (v := 2) (q := c.inputs.length) (RowA.blk (l := [2]) (fun _ => rfl) (hi.box M)) (by omega)
    have hrs : ∀ Γ, In Γ (.old w none_) → ∀ w', Mem w' Γ → CVN Tryd.prog 50 [.agg (ccells c h).toArray] w' _ := fun Γ hi w' M => resetsP_cv R (H.at_.chg (hi.old M))
    rw [he, e1, e2]
    repeat' (first
|(apply G_call;eq_refl;eq_refl;(apply hrd;(repeat first|exact In.here|apply In.there|apply In.skip));rintro _ _ (⟨he', rfl, rfl⟩|⟨_, p1, B1, kB, rfl, rfl⟩);(exact absurd he he'))
|(apply G_call;eq_refl;eq_refl;(apply hRep;(repeat first|exact In.here|apply In.there|apply In.skip));rintro _ _ ⟨b7, rfl, rfl⟩)
|(apply G_call;eq_refl;eq_refl;(apply hrs;(repeat first|exact In.here|apply In.there|apply In.skip));rintro _ _ ⟨A8, k8, rfl, rfl⟩)
|(apply GC_seqK;intro K hK)
|(apply hK;clear hK K)
|(apply GC_block)
|(apply GC_region)
|(apply GL_nil)
|(apply thenG_normal)
|(apply GC_skip)
|(apply GC_if_false;eq_refl)
|(apply GL_on;eq_refl;eq_refl)
|(apply G_pv;eq_refl;first|exact trivial|omega)
|(apply G_field;eq_refl)
|(apply G_ld;eq_refl;(repeat first|exact In.here|apply In.there|apply In.skip);eq_refl)
|(apply G_ldW;eq_refl;(repeat first|exact In.here|apply In.there|apply In.skip);eq_refl)
|(apply G_cmpF;eq_refl;eq_refl;omega)
|(apply G_len;eq_refl)
|(apply G_box;eq_refl;eq_refl;intro _)
|(apply G_new (fun b => .slice (some ⟨b, 0, none⟩) 1 1);eq_refl;(intro _;apply buildS22_1 <;> eq_refl);intro _))
    refine GC_loopK [5, 7] (fun s : Nat × Option Addr × Nat => [(8, .slice s.2.1 (stT c s.1).length s.2.2), (9, nu s.1)]) (fun s => [.vec icell 1 3 s.2.1 s.2.2 (stT c s.1), .vec icell 1 3 (some ⟨b7, 0, none⟩) c.inputs.length (List.replicate c.inputs.length 2), .box p1 103 (rcells c h B1 kB), .vec icell 1 3 B1 kB (ordM c), .old w none_]) (fun s => s.1 ≤ nS c) (fun s => nS c - s.1) (0, A8, k8) (by repeat first | exact Pick.nil | (apply Pick.cons; eq_refl)) (by repeat first | exact trivial | refine ⟨rfl, ?_⟩) (by repeat first | exact Wk.nil | exact Wk.refl | (apply Wk.cons; (focus ((repeat first | exact Rem.here | apply Rem.there | apply Rem.skip); done))) | apply Wk.nilv | apply Wk.last | apply Wk.drop) (Nat.zero_le _) ?_
    rintro ⟨n, A, k⟩ hn
    dsimp only at hn ⊢
    have hsl := stT_len c n
    have hsr := stT_row R n
    have hrl : (List.replicate c.inputs.length (2 : Int)).length = c.inputs.length := List.length_replicate
    have hvl := valT_len m0 (stT c n) (List.replicate c.inputs.length 2)
    have hvr := valT_row (c := c) hsr (open_row c.inputs.length) hsl hrl
    have hv : ∀ Γ, In Γ (.old w none_) → In Γ (.box p1 103 (rcells c h B1 kB)) → In Γ (.vec icell 1 3 B1 kB (ordM c)) → In Γ (.vec icell 1 3 A k (stT c n)) → In Γ (.vec icell 1 3 (some ⟨b7, 0, none⟩) c.inputs.length (List.replicate c.inputs.length 2)) → ∀ w', Mem w' Γ → CVN Tryd.prog 45 [pt p1, .slice A (stT c n).length k, .slice (some ⟨b7, 0, none⟩) (List.replicate c.inputs.length (2 : Int)).length c.inputs.length] w' _ := fun Γ hi hb ho ha hr w' M => valuesT_cv (G.chg (hi.old M)) R (hb.box M) (H.at_.chg (hi.old M)) (ho.row M) (ha.row M) (hr.row M) hsl hrl hsr (open_row _)
    have hnx : ∀ Γ A2 k2, In Γ (.old w none_) → In Γ (.box p1 103 (rcells c h B1 kB)) → In Γ (.vec icell 1 3 A2 k2 (valT c (stT c n) (List.replicate c.inputs.length 2))) → ∀ w', Mem w' Γ → CVN Tryd.prog 52 [pt p1, .slice A2 (valT c (stT c n) (List.replicate c.inputs.length 2)).length k2] w' _ := fun Γ A2 k2 hi hb hv w' M => nextT_cv (G.chg (hi.old M)) R (hb.box M) (H.at_.chg (hi.old M)) (hv.row M) hvr hvl
    have hj : ∀ Γ A2 k2, In Γ (.vec icell 1 3 A k (stT c n)) → In Γ (.vec icell 1 3 A2 k2 (nxtT c (valT c (stT c n) (List.replicate c.inputs.length 2)))) → ∀ w', Mem w' Γ → CVN Tryd.prog 51 [.slice A (stT c n).length k, .slice A2 (nxtT c (valT c (stT c n) (List.replicate c.inputs.length 2))).length k2] w' fun v N => ∃ A' k', v = .slice A' (stT c (n + 1)).length k' ∧ N = [.vec icell 1 3 A' k' (stT c (n + 1))] := fun Γ A2 k2 ha hb w' M => join3_cv (ha.row M) (hb.row M) (by rw [hsl]; unfold nxtT; rw [List.length_map]) (by omega)
    have hsl1 := stT_len c (n + 1)
    have hq : ∀ Γ A2 k2, In Γ (.vec icell 1 3 A k (stT c n)) → In Γ (.vec icell 1 3 A2 k2 (stT c (n + 1))) → ∀ w', Mem w' Γ → CVN Tryd.prog 53 [.slice A (stT c n).length k, .slice A2 (stT c (n + 1)).length k2] w' _ := fun Γ A2 k2 ha hb w' M => equalIntsG (ha.row M) (hb.row M) (by omega) (by omega)
    by_cases hf : n = nS c
    · have hd : decide (stT c n = stT c (n + 1)) = true := decide_eq_true (by subst hf; exact (nS_fix c).symm)
      rw [hd] at hq
      generalize stT c (n + 1) = S1 at *
      generalize valT c (stT c n) (List.replicate c.inputs.length 2) = V at *
      subst hf
      generalize stT c (nS c) = S0 at *
      repeat' (first
|(apply G_call;eq_refl;eq_refl;(apply hv;(repeat first|exact In.here|apply In.there|apply In.skip);(repeat first|exact In.here|apply In.there|apply In.skip);(repeat first|exact In.here|apply In.there|apply In.skip);(repeat first|exact In.here|apply In.there|apply In.skip);(repeat first|exact In.here|apply In.there|apply In.skip));rintro _ _ ⟨A33, k33, rfl, rfl⟩)
|(apply G_call;eq_refl;eq_refl;(apply hnx;(repeat first|exact In.here|apply In.there|apply In.skip);(repeat first|exact In.here|apply In.there|apply In.skip);(repeat first|exact In.here|apply In.there|apply In.skip));rintro _ _ ⟨A34, k34, rfl, rfl⟩)
|(apply G_call;eq_refl;eq_refl;(apply hj;(repeat first|exact In.here|apply In.there|apply In.skip);(repeat first|exact In.here|apply In.there|apply In.skip));rintro _ _ ⟨A35, k35, rfl, rfl⟩)
|(apply G_call;eq_refl;eq_refl;(apply hq;(repeat first|exact In.here|apply In.there|apply In.skip);(repeat first|exact In.here|apply In.there|apply In.skip));rintro _ _ ⟨rfl, rfl⟩)
|(apply GC_seqK;intro K hK)
|(apply hK;clear hK K)
|(apply GC_block)
|(apply GC_region)
|(apply GL_nil)
|(apply thenG_normal)
|(apply thenG_ret)
|(apply blockG_ret)
|(apply GC_ret)
|(apply GC_if_true;eq_refl)
|(apply retG3;eq_refl;eq_refl;eq_refl)
|(apply GL_on;eq_refl;eq_refl)
|(apply G_pv;eq_refl;first|exact trivial|omega))
      exact ⟨[.vec icell 1 3 A k S0], (by repeat first | exact Wk.nil | exact Wk.refl | (apply Wk.cons; (focus ((repeat first | exact Rem.here | apply Rem.there | apply Rem.skip); done))) | apply Wk.nilv | apply Wk.last | apply Wk.drop), _, _, rfl, rfl⟩
    · have hd : decide (stT c n = stT c (n + 1)) = false := decide_eq_false fun e => nS_not c (i := n) (by omega) e.symm
      rw [hd] at hq
      repeat' (first
|(apply G_call;eq_refl;eq_refl;(apply hv;(repeat first|exact In.here|apply In.there|apply In.skip);(repeat first|exact In.here|apply In.there|apply In.skip);(repeat first|exact In.here|apply In.there|apply In.skip);(repeat first|exact In.here|apply In.there|apply In.skip);(repeat first|exact In.here|apply In.there|apply In.skip));rintro _ _ ⟨A33, k33, rfl, rfl⟩)
|(apply G_call;eq_refl;eq_refl;(apply hnx;(repeat first|exact In.here|apply In.there|apply In.skip);(repeat first|exact In.here|apply In.there|apply In.skip);(repeat first|exact In.here|apply In.there|apply In.skip));rintro _ _ ⟨A34, k34, rfl, rfl⟩)
|(apply G_call;eq_refl;eq_refl;(apply hj;(repeat first|exact In.here|apply In.there|apply In.skip);(repeat first|exact In.here|apply In.there|apply In.skip));rintro _ _ ⟨A35, k35, rfl, rfl⟩)
|(apply G_call;eq_refl;eq_refl;(apply hq;(repeat first|exact In.here|apply In.there|apply In.skip);(repeat first|exact In.here|apply In.there|apply In.skip));rintro _ _ ⟨rfl, rfl⟩)
|(apply GC_seqK;intro K hK)
|(apply hK;clear hK K)
|(apply GC_block)
|(apply GC_region)
|(apply GL_nil)
|(apply thenG_normal)
|(apply blockG_normal)
|(apply GC_skip)
|(apply GC_if_false;eq_refl)
|(apply GL_on;eq_refl;eq_refl)
|(apply G_pv;eq_refl;first|exact trivial|omega))
      exact ⟨(n + 1, A35, k35), (by repeat first | exact trivial | refine ⟨rfl, ?_⟩), (by repeat first | exact Wk.nil | exact Wk.refl | (apply Wk.cons; (focus ((repeat first | exact Rem.here | apply Rem.there | apply Rem.skip); done))) | apply Wk.nilv | apply Wk.last | apply Wk.drop), by dsimp only; omega, by dsimp only; omega⟩
  · have e1 : sM c = [] := if_neg he
    have e2 : sN c = 0 := if_neg he
    rw [e1, e2]
    repeat' (first
|(apply G_call;eq_refl;eq_refl;(apply hrd;(repeat first|exact In.here|apply In.there|apply In.skip));rintro _ _ (⟨_, rfl, rfl⟩|⟨he', p1, B1, kB, rfl, rfl⟩);rotate_left;(exact absurd he' he))
|(apply GC_seqK;intro K hK)
|(apply hK;clear hK K)
|(apply GC_region)
|(apply GL_nil)
|(apply thenG_normal)
|(apply thenG_ret)
|(apply GC_ret)
|(apply GC_if_true;eq_refl)
|(apply retG3;eq_refl;eq_refl;eq_refl)
|(apply GL_on;eq_refl;eq_refl)
|(apply G_pv;eq_refl;first|exact trivial|omega)
|(apply G_ldW;eq_refl;(repeat first|exact In.here|apply In.there|apply In.skip);eq_refl)
|(apply G_cmpT;eq_refl;eq_refl;omega)
|(apply G_box;eq_refl;eq_refl;intro _))
    exact ⟨[.vec icell 1 3 none 0 []], (by repeat first | exact Wk.nil | exact Wk.refl | (apply Wk.cons; (focus ((repeat first | exact Rem.here | apply Rem.there | apply Rem.skip); done))) | apply Wk.nilv | apply Wk.last | apply Wk.drop), none, 0, rfl, rfl⟩
set_option maxHeartbeats 800000 in
theorem SettleR_cv {w : World} {c : Circ} {h js : Hd} (H : CirIn w c h js) : CVN Tryd.prog 20 [.agg (ccells c h).toArray] w (SetV c) := by
  have hrs : ∀ Γ, In Γ (.old w none_) → ∀ w', Mem w' Γ → CVN Tryd.prog 22 [.agg (ccells c h).toArray] w' (IntsE (trsM c) (lookM c).2) := fun Γ hi w' M => ResetsRT_cv (H.chg (hi.old M))
  have hInp := H.at_.inputs
  unfold IntsE at hrs
  unfold SetV
  refine CVN.enter 56 [2, 3, 4] Tryd.func20 rfl rfl rfl (by decide) rfl ?_
  by_cases he : (lookM c).2 = 0
  · have R := right_of H.at_ H.sane he
    have n1 := R.nIn
    have n2 := R.nLat
    have m0 := R.m0
    have hSl := nS_le c
    have e1 : sM c = stT c (nS c) := if_pos he
    have e2 : sN c = (nS c : Int) := if_pos he
    have e3 : trsM c = stT c 0 := if_pos he
    have fl0 : fillL (fun _ : Int => (2 : Int)) c.inputs 0 0 = List.replicate c.inputs.length 0 := fillL_0
    have fl1 : fillL (fun _ : Int => (2 : Int)) c.inputs 0 c.inputs.length = List.replicate c.inputs.length 2 := by rw [fillL_all (Nat.le_refl _), List.map_const']
    rw [he, e3] at hrs
    rw [he, e1, e2]
    repeat' (first
|(apply G_call;eq_refl;eq_refl;(apply hrs;(repeat first|exact In.here|apply In.there|apply In.skip));rintro _ _ ⟨A8, k8, rfl, rfl⟩)
|(apply G_make icell;eq_refl;eq_refl;eq_refl;omega;decide;intro b7)
|(apply GC_seqK;intro K hK)
|(apply hK;clear hK K)
|(apply GC_block)
|(apply GC_region)
|(apply GL_nil)
|(apply thenG_normal)
|(apply GC_skip)
|(apply GC_if_false;eq_refl)
|(apply GL_on;eq_refl;eq_refl)
|(apply G_pv;eq_refl;first|exact trivial|omega)
|(apply G_field;eq_refl)
|(apply G_ld;eq_refl;(repeat first|exact In.here|apply In.there|apply In.skip);eq_refl)
|(apply G_ldW;eq_refl;(repeat first|exact In.here|apply In.there|apply In.skip);eq_refl)
|(apply G_cmpF;eq_refl;eq_refl;omega)
|(apply G_len;eq_refl)
|(apply G_box;eq_refl;eq_refl;intro _))
    rename_i b1
    refine GC_loopK [1, 5, 7] (fun s : Nat × List Int => [(8, nu s.1)]) (fun s => [.vec icell 1 3 (some ⟨b7, 0, none⟩) c.inputs.length s.2, .vec icell 1 3 A8 k8 (stT c 0), .box b1 29 (ccells c h), .old w none_]) (fun s => s.1 ≤ c.inputs.length ∧ s.2 = fillL (fun _ : Int => (2 : Int)) c.inputs 0 s.1) (fun s => c.inputs.length - s.1) (0, List.replicate c.inputs.length 0) (by repeat first | exact Pick.nil | (apply Pick.cons; eq_refl)) (by repeat first | exact trivial | refine ⟨rfl, ?_⟩) (by repeat first | exact Wk.nil | exact Wk.refl | (apply Wk.cons; (focus ((repeat first | exact Rem.here | apply Rem.there | apply Rem.skip); done))) | apply Wk.nilv | apply Wk.last | apply Wk.drop) ⟨Nat.zero_le _, fl0.symm⟩ ?_
    rintro ⟨i, out⟩ ⟨hi, hout⟩
    dsimp only at hi hout ⊢
    have hlen : out.length = c.inputs.length := by rw [hout, fillL_len hi]
    rcases Nat.lt_or_ge i c.inputs.length with hlt | hge
    · have hst := fillL_set (f := fun _ : Int => (2 : Int)) (z := (0 : Int)) hlt
      rw [← hout] at hst
      repeat' (first
|(apply GC_seqK;intro K hK)
|(apply hK;clear hK K)
|(apply GC_block)
|(apply GC_region)
|(apply GL_nil)
|(apply thenG_normal)
|(apply blockG_normal)
|(apply GC_skip)
|(apply GC_if_true;eq_refl)
|(apply GL_on;eq_refl;eq_refl)
|(apply G_pv;eq_refl;first|exact trivial|omega)
|(apply G_cmpT;eq_refl;eq_refl;omega)
|(apply G_len;eq_refl)
|(apply G_ix;eq_refl;eq_refl;(first|(apply Rd.own;(repeat first|exact In.here|apply In.there|apply In.skip);infer_instance)|(apply Rd.old;(repeat first|exact In.here|apply In.there|apply In.skip);assumption)|(apply Rd.oldR;(repeat first|exact In.here|apply In.there|apply In.skip);assumption)|exact Rd.nil|assumption);(first|eq_refl|omega);omega;omega)
|(apply G_stV;(first|exact wr_p|kernel_rfl);eq_refl;eq_refl;eq_refl;eq_refl;(repeat first|exact Upd.here|apply Upd.there|apply Upd.skip);infer_instance;infer_instance;eq_refl;omega;(try simp only [List.length_set, List.length_append, List.length_replicate]);omega))
      exact ⟨(i + 1, _), (by repeat first | exact trivial | refine ⟨rfl, ?_⟩), (by repeat first | exact Wk.nil | exact Wk.refl | (apply Wk.cons; (focus ((repeat first | exact Rem.here | apply Rem.there | apply Rem.skip); done))) | apply Wk.nilv | apply Wk.last | apply Wk.drop), ⟨hlt, hst⟩, by simp only; omega⟩
    · obtain rfl : i = c.inputs.length := by omega
      rw [fl1] at hout
      subst hout
      repeat' (first
|(apply GC_seqK;intro K hK)
|(apply hK;clear hK K)
|(clear hK K;apply hK;clear hK K)
|(apply GC_block)
|(apply GC_region)
|(apply GL_nil)
|(apply thenG_normal)
|(apply thenG_exit)
|(apply blockG_hit)
|(apply GC_exit)
|(apply GC_if_false;eq_refl)
|(apply GL_on;eq_refl;eq_refl)
|(apply G_pv;eq_refl;first|exact trivial|omega)
|(apply G_cmpF;eq_refl;eq_refl;omega)
|(apply G_len;eq_refl))
      refine GC_loopK [1, 7] (fun s : Nat × Option Addr × Nat => [(5, .slice s.2.1 (stT c s.1).length s.2.2), (9, nu s.1)]) (fun s => [.vec icell 1 3 s.2.1 s.2.2 (stT c s.1), .vec icell 1 3 (some ⟨b7, 0, none⟩) c.inputs.length (List.replicate c.inputs.length 2), .box b1 29 (ccells c h), .old w none_]) (fun s => s.1 ≤ nS c) (fun s => nS c - s.1) (0, A8, k8) (by repeat first | exact Pick.nil | (apply Pick.cons; eq_refl)) (by repeat first | exact trivial | refine ⟨rfl, ?_⟩) (by repeat first | exact Wk.nil | exact Wk.refl | (apply Wk.cons; (focus ((repeat first | exact Rem.here | apply Rem.there | apply Rem.skip); done))) | apply Wk.nilv | apply Wk.last | apply Wk.drop) (Nat.zero_le _) ?_
      rintro ⟨n, A, k⟩ hn
      dsimp only at hn ⊢
      have hsl := stT_len c n
      have hsr := stT_row R n
      have hrl : (List.replicate c.inputs.length (2 : Int)).length = c.inputs.length := List.length_replicate
      have htw := twE_of he hsl hrl hsr (open_row c.inputs.length)
      have hvl := valT_len m0 (stT c n) (List.replicate c.inputs.length 2)
      have hvr := valT_row (c := c) hsr (open_row c.inputs.length) hsl hrl
      have hnr := nxtT_row R hvr hvl
      have hnl : (nxtT c (valT c (stT c n) (List.replicate c.inputs.length 2))).length = c.latches.length := by unfold nxtT; rw [List.length_map]
      have htn : tnM c (stT c n) (List.replicate c.inputs.length 2) = nxtT c (valT c (stT c n) (List.replicate c.inputs.length 2)) := if_pos htw
      have hje := jnE_ok (a := stT c n) (b := nxtT c (valT c (stT c n) (List.replicate c.inputs.length 2))) (by omega) (by omega) hsr hnr
      have hjm : jnM (stT c n) (nxtT c (valT c (stT c n) (List.replicate c.inputs.length 2))) = stT c (n + 1) := if_pos hje
      have hv : ∀ Γ, In Γ (.old w none_) → In Γ (.vec icell 1 3 A k (stT c n)) → In Γ (.vec icell 1 3 (some ⟨b7, 0, none⟩) c.inputs.length (List.replicate c.inputs.length 2)) → ∀ w', Mem w' Γ → CVN Tryd.prog 27 [.agg (ccells c h).toArray, .slice A (stT c n).length k, .slice (some ⟨b7, 0, none⟩) c.inputs.length c.inputs.length] w' fun v N => ∃ A k, v = .tuple #[.slice A (nxtT c (valT c (stT c n) (List.replicate c.inputs.length 2))).length k, nu 0] ∧ N = [.vec icell 1 3 A k (nxtT c (valT c (stT c n) (List.replicate c.inputs.length 2)))] := fun Γ hi ha hr w' M => by
        have := StepRT_cv (k2 := k) (k3 := c.inputs.length) (H.chg (hi.old M)) (ha.row M) (hr.row M) (by omega) (by omega)
        unfold IntsE at this
        rwa [htn, htw, hrl] at this
      have hj : ∀ Γ A2 k2, In Γ (.vec icell 1 3 A k (stT c n)) → In Γ (.vec icell 1 3 A2 k2 (nxtT c (valT c (stT c n) (List.replicate c.inputs.length 2)))) → ∀ w', Mem w' Γ → CVN Tryd.prog 31 [.slice A (stT c n).length k, .slice A2 (nxtT c (valT c (stT c n) (List.replicate c.inputs.length 2))).length k2] w' fun v N => ∃ A' k', v = .tuple #[.slice A' (stT c (n + 1)).length k', nu 0] ∧ N = [.vec icell 1 3 A' k' (stT c (n + 1))] := fun Γ A2 k2 ha hb w' M => by
        have := JoinR_cv (k := k) (k2 := k2) (ha.row M) (hb.row M) (by omega) (by omega)
        unfold IntsE at this
        rwa [hjm, hje] at this
      have hsl1 := stT_len c (n + 1)
      have hq : ∀ Γ A2 k2, In Γ (.vec icell 1 3 A k (stT c n)) → In Γ (.vec icell 1 3 A2 k2 (stT c (n + 1))) → ∀ w', Mem w' Γ → CVN Tryd.prog 54 [.slice A2 (stT c (n + 1)).length k2, .slice A (stT c n).length k] w' _ := fun Γ A2 k2 ha hb w' M => same8_cv (hb.row M) (ha.row M) (by omega) (by omega)
      by_cases hf : n = nS c
      · have hd : decide (stT c (n + 1) = stT c n) = true := decide_eq_true (by subst hf; exact nS_fix c)
        rw [hd] at hq
        clear hjm hje htn
        generalize stT c (n + 1) = S1 at *
        generalize nxtT c (valT c (stT c n) (List.replicate c.inputs.length 2)) = V at *
        subst hf
        generalize stT c (nS c) = S0 at *
        repeat' (first
|(apply G_call;eq_refl;eq_refl;(apply hv;(repeat first|exact In.here|apply In.there|apply In.skip);(repeat first|exact In.here|apply In.there|apply In.skip);(repeat first|exact In.here|apply In.there|apply In.skip));rintro _ _ ⟨A33, k33, rfl, rfl⟩)
|(apply G_call;eq_refl;eq_refl;(apply hj;(repeat first|exact In.here|apply In.there|apply In.skip);(repeat first|exact In.here|apply In.there|apply In.skip));rintro _ _ ⟨A35, k35, rfl, rfl⟩)
|(apply G_call;eq_refl;eq_refl;(apply hq;(repeat first|exact In.here|apply In.there|apply In.skip);(repeat first|exact In.here|apply In.there|apply In.skip));rintro _ _ ⟨rfl, rfl⟩)
|(apply GC_seqK;intro K hK)
|(apply hK;clear hK K)
|(apply GC_block)
|(apply GC_region)
|(apply GL_nil)
|(apply thenG_normal)
|(apply thenG_ret)
|(apply blockG_ret)
|(apply GC_ret)
|(apply GC_if_true;eq_refl)
|(apply retG3;eq_refl;eq_refl;eq_refl)
|(apply GL_on;eq_refl;eq_refl)
|(apply G_pv;eq_refl;first|exact trivial|omega)
|(apply G_ldW;eq_refl;(repeat first|exact In.here|apply In.there|apply In.skip);eq_refl))
        exact ⟨[.vec icell 1 3 A k S0], (by repeat first | exact Wk.nil | exact Wk.refl | (apply Wk.cons; (focus ((repeat first | exact Rem.here | apply Rem.there | apply Rem.skip); done))) | apply Wk.nilv | apply Wk.last | apply Wk.drop), _, _, rfl, rfl⟩
      · have hd : decide (stT c (n + 1) = stT c n) = false := decide_eq_false fun e => nS_not c (i := n) (by omega) e
        rw [hd] at hq
        repeat' (first
|(apply G_call;eq_refl;eq_refl;(apply hv;(repeat first|exact In.here|apply In.there|apply In.skip);(repeat first|exact In.here|apply In.there|apply In.skip);(repeat first|exact In.here|apply In.there|apply In.skip));rintro _ _ ⟨A33, k33, rfl, rfl⟩)
|(apply G_call;eq_refl;eq_refl;(apply hj;(repeat first|exact In.here|apply In.there|apply In.skip);(repeat first|exact In.here|apply In.there|apply In.skip));rintro _ _ ⟨A35, k35, rfl, rfl⟩)
|(apply G_call;eq_refl;eq_refl;(apply hq;(repeat first|exact In.here|apply In.there|apply In.skip);(repeat first|exact In.here|apply In.there|apply In.skip));rintro _ _ ⟨rfl, rfl⟩)
|(apply GC_seqK;intro K hK)
|(apply hK;clear hK K)
|(apply GC_block)
|(apply GC_region)
|(apply GL_nil)
|(apply thenG_normal)
|(apply blockG_normal)
|(apply GC_skip)
|(apply GC_if_false;eq_refl)
|(apply GL_on;eq_refl;eq_refl)
|(apply G_pv;eq_refl;first|exact trivial|omega)
|(apply G_ldW;eq_refl;(repeat first|exact In.here|apply In.there|apply In.skip);eq_refl))
        exact ⟨(n + 1, A35, k35), (by repeat first | exact trivial | refine ⟨rfl, ?_⟩), (by repeat first | exact Wk.nil | exact Wk.refl | (apply Wk.cons; (focus ((repeat first | exact Rem.here | apply Rem.there | apply Rem.skip); done))) | apply Wk.nilv | apply Wk.last | apply Wk.drop), by dsimp only; omega, by dsimp only; omega⟩
  · have e1 : sM c = [] := if_neg he
    have e2 : sN c = 0 := if_neg he
    have e3 : trsM c = [] := if_neg he
    rw [e3] at hrs
    rw [e1, e2]
    generalize (lookM c).2 = ε at *
    repeat' (first
|(apply G_call;eq_refl;eq_refl;(apply hrs;(repeat first|exact In.here|apply In.there|apply In.skip));rintro _ _ ⟨A8, k8, rfl, rfl⟩)
|(apply GC_seqK;intro K hK)
|(apply hK;clear hK K)
|(apply GC_region)
|(apply GL_nil)
|(apply thenG_normal)
|(apply thenG_ret)
|(apply GC_ret)
|(apply GC_if_true;eq_refl)
|(apply retG3;eq_refl;eq_refl;eq_refl)
|(apply GL_on;eq_refl;eq_refl)
|(apply G_pv;eq_refl;first|exact trivial|omega)
|(apply G_ldW;eq_refl;(repeat first|exact In.here|apply In.there|apply In.skip);eq_refl)
|(apply G_cmpT;eq_refl;eq_refl;omega)
|(apply G_box;eq_refl;eq_refl;intro _))
    exact ⟨[.vec icell 1 3 none 0 []], (by repeat first | exact Wk.nil | exact Wk.refl | (apply Wk.cons; (focus ((repeat first | exact Rem.here | apply Rem.there | apply Rem.skip); done))) | apply Wk.nilv | apply Wk.last | apply Wk.drop), none, 0, rfl, rfl⟩
end SC
end Go.Proofs.YtclihihdgodloaaDoor
end
section
/- Lift of both. -/
set_option linter.unusedVariables false
set_option linter.unusedSimpArgs false
namespace Go.Proofs.YtclihihdgodloaaDoor
namespace SC
open Go.Proofs
theorem ones_any (v ls : List Int) : (ls.any fun l => !decide (tl v l = 1)) = !onesT v ls := by unfold onesT; rw [List.not_all_eq_any_not]
theorem lf_back {c : Circ} {s r ls : List Int} {i : Nat} (h : i < s.length) : ((lfT c s r ls i).set (i : Int).toNat 2).set (i : Int).toNat (gt s (i : Int)) = lfT c s r ls i := by
  have hl := lfT_len (c := c) (s := s) (r := r) (ls := ls) i
  rw [List.set_set, Int.toNat_natCast, ← lfT_late (c := c) (r := r) (ls := ls) i i (Nat.le_refl _), gt_nat (by omega), List.set_getElem_self]
theorem lf_yes {c : Circ} {s r ls : List Int} {i : Nat} (h : onesT (valT c ((lfT c s r ls i).set (i : Int).toNat 2) r) ls = true) : lfT c s r ls (i + 1) = (lfT c s r ls i).set (i : Int).toNat 2 := by
  rw [Int.toNat_natCast] at h ⊢
  exact if_pos h
theorem lf_no {c : Circ} {s r ls : List Int} {i : Nat} (h : onesT (valT c ((lfT c s r ls i).set (i : Int).toNat 2) r) ls = false) : lfT c s r ls (i + 1) = lfT c s r ls i := by
  rw [Int.toNat_natCast] at h
  exact if_neg (by rw [h]; decide)
attribute [local irreducible] WC WL WX WS WO OX Does DoesU Enters CV Pure thenQ blockQ retQ Wants retQC GC GL GS GX RdB thenG blockG retG Rd At gt CVN CVM
set_option maxRecDepth 100000
theorem wrong1_cv {w : World} {b k : Nat} {A : Option Addr} {v : List Int} {l : Int} (G : TabG w) (hB : Blk w b 22 [.slice A v.length k]) (hA : RowA w icell 1 A v) (h3 : Row3 v) (h0 : 0 ≤ l / 2) (h1 : l / 2 < v.length) (hl : v.length ≤ 1000000) : CVN Tryd.prog 42 [nu l, pt b] w fun r N => N = [] ∧ r = .bool (!decide (tl v l = 1)) := by
  have hof : ∀ Γ, In Γ (.old w none_) → ∀ w', Mem w' Γ → CVN Tryd.prog 43 [.slice A v.length k, nu l] w' _ := fun Γ ho w' M => of3_cv (G.chg (ho.old M)) (hA.chg (ho.old M)) rfl h3 h0 h1 hl
  generalize tl v l = x at *
  refine CVN.enter 8 [3] Tryd.func42 rfl rfl rfl (by decide) rfl ?_
  by_cases hx : x = 1
  · rw [decide_eq_true hx]
    repeat' (first
|(apply G_call;eq_refl;eq_refl;(apply hof;(repeat first|exact In.here|apply In.there|apply In.skip));rintro _ _ ⟨rfl, rfl⟩)
|(apply GC_seqK;intro K hK)
|(apply hK;clear hK K)
|(apply GC_region)
|(apply GL_nil)
|(apply thenG_normal)
|(apply GC_ret)
|(apply retG1;eq_refl)
|(apply GL_on;eq_refl;eq_refl)
|(apply G_pv;eq_refl;first|exact trivial|omega)
|(apply G_ldO;eq_refl;(repeat first|exact In.here|apply In.there|apply In.skip);assumption;eq_refl)
|(apply G_cmpF;eq_refl;eq_refl;omega))
    exact ⟨[], (by repeat first | exact Wk.nil | exact Wk.refl | (apply Wk.cons; (focus ((repeat first | exact Rem.here | apply Rem.there | apply Rem.skip); done))) | apply Wk.nilv | apply Wk.last | apply Wk.drop), rfl, rfl⟩
  · rw [decide_eq_false hx]
    repeat' (first
|(apply G_call;eq_refl;eq_refl;(apply hof;(repeat first|exact In.here|apply In.there|apply In.skip));rintro _ _ ⟨rfl, rfl⟩)
|(apply GC_seqK;intro K hK)
|(apply hK;clear hK K)
|(apply GC_region)
|(apply GL_nil)
|(apply thenG_normal)
|(apply GC_ret)
|(apply retG1;eq_refl)
|(apply GL_on;eq_refl;eq_refl)
|(apply G_pv;eq_refl;first|exact trivial|omega)
|(apply G_ldO;eq_refl;(repeat first|exact In.here|apply In.there|apply In.skip);assumption;eq_refl)
|(apply G_cmpT;eq_refl;eq_refl;omega))
    exact ⟨[], (by repeat first | exact Wk.nil | exact Wk.refl | (apply Wk.cons; (focus ((repeat first | exact Rem.here | apply Rem.there | apply Rem.skip); done))) | apply Wk.nilv | apply Wk.last | apply Wk.drop), rfl, rfl⟩
theorem wrong_cv {w : World} {b k kL : Nat} {A L : Option Addr} {v ls : List Int} (G : TabG w) (hB : Blk w b 22 [.slice L ls.length kL]) (hL : RowA w icell 1 L ls) (hA : RowA w icell 1 A v) (h3 : Row3 v) (hls : ∀ l ∈ ls, 0 ≤ l / 2 ∧ l / 2 < v.length) (hl : v.length ≤ 1000000) (hn : ls.length ≤ 16384) : CVN Tryd.prog 40 [.slice A v.length k, pt b] w fun r N => N = [] ∧ r = .bool (!onesT v ls) := by
  have hcf : ∀ Γ b2, In Γ (.old w none_) → In Γ (.box b2 22 [.slice A v.length k]) → ∀ w', Mem w' Γ → CVN Tryd.prog 41 [.slice L ls.length kL, .func (.func 42) #[] #[pt b2]] w' fun r N => N = [] ∧ r = .bool (!onesT v ls) := fun Γ b2 ho hb w' M => by
    have := containsFunc_cv (f := 42) (cap := #[pt b2]) (p := fun l => !decide (tl v l = 1)) (k := kL) (hL.chg (ho.old M)) (by omega) fun l hm w2 hc => wrong1_cv ((G.chg (ho.old M)).chg hc) ((hb.box M).chg hc id) ((hA.chg (ho.old M)).chg hc) h3 (hls l hm).1 (hls l hm).2 hl
    rwa [ones_any] at this
  refine CVN.enter 7 [3] Tryd.func40 rfl rfl rfl (by decide) rfl ?_
  repeat' (first
|(apply G_call;eq_refl;eq_refl;(apply hcf;(repeat first|exact In.here|apply In.there|apply In.skip);(repeat first|exact In.here|apply In.there|apply In.skip));rintro _ _ ⟨rfl, rfl⟩)
|(apply GC_seqK;intro K hK)
|(apply hK;clear hK K)
|(apply GC_region)
|(apply GL_nil)
|(apply thenG_normal)
|(apply GC_ret)
|(apply retG1;eq_refl)
|(apply GL_on;eq_refl;eq_refl)
|(apply G_pv;eq_refl;first|exact trivial|omega)
|(apply G_ldO;eq_refl;(repeat first|exact In.here|apply In.there|apply In.skip);assumption;eq_refl)
|(apply G_box;eq_refl;eq_refl;intro _)
|(apply G_fun;eq_refl))
  exact ⟨[], (by repeat first | exact Wk.nil | exact Wk.refl | (apply Wk.cons; (focus ((repeat first | exact Rem.here | apply Rem.there | apply Rem.skip); done))) | apply Wk.nilv | apply Wk.last | apply Wk.drop), rfl, rfl⟩
section
variable {w : World} {c : Circ} {h js : Hd} {S T L : Option Addr} {k2 k3 k4 : Nat} {s r ls : List Int} (H : CirIn w c h js) (hS : RowA w icell 1 S s) (hT : RowA w icell 1 T r) (hL : RowA w icell 1 L ls) (hs : s.length ≤ 17592186044000) (hr : r.length ≤ 9223372036854775807) (hl : ls.length ≤ 9223372036854775807)
include H hS hT hL hs hr hl
set_option maxHeartbeats 1600000 in
theorem LiftP_cv (G : TabG w) : CVN Tryd.prog 12 [.agg (ccells c h).toArray, .slice S s.length k2, .slice T r.length k3, .slice L ls.length k4] w (IntsE (lfM c s r ls) (lfE c s r ls)) := by
  have hlk : ∀ Γ, In Γ (.old w none_) → ∀ w', Mem w' Γ → CVN Tryd.prog 39 [.agg (ccells c h).toArray, .slice S s.length k2, .slice T r.length k3] w' (LookedT c h s r) := fun Γ hi w' M => lookedT_cv (G.chg (hi.old M)) (H.chg (hi.old M)) (hS.chg (hi.old M)) (hT.chg (hi.old M)) (by omega) hr
  have hcl : ∀ Γ, In Γ (.old w none_) → ∀ w', Mem w' Γ → CVN Tryd.prog 44 [.slice S s.length k2] w' _ := fun Γ hi w' M => cloneI_cv (hS.chg (hi.old M)) hs
  unfold IntsE
  refine CVN.enter 78 [8, 9] Tryd.func12 rfl rfl rfl (by decide) rfl ?_
  by_cases ht : twE c s r = 0
  · obtain ⟨z0, ⟨z1, z2⟩, z3, z4⟩ := twE_zero ht
    have R := right_of H.at_ H.sane z0
    have m0 := R.m0
    have m1 := R.m1
    have n1 := R.nIn
    have n2 := R.nLat
    by_cases hlg : 16384 < ls.length
    · have e0 := lfE_long (ls := ls) ht hlg
      have e1 : lfM c s r ls = [] := if_neg (by rw [e0]; decide)
      rw [e0, e1]
      repeat' (first
|(apply G_call;eq_refl;eq_refl;(apply hlk;(repeat first|exact In.here|apply In.there|apply In.skip));rintro _ _ (⟨he, rfl, rfl⟩|⟨_, p1, B1, k1, A1, k5, rfl, rfl⟩);(exact absurd ht he))
|(apply GC_seqK;intro K hK)
|(apply hK;clear hK K)
|(apply GC_region)
|(apply GL_nil)
|(apply thenG_normal)
|(apply thenG_ret)
|(apply GC_ret)
|(apply GC_skip)
|(apply GC_if_true;eq_refl)
|(apply GC_if_false;eq_refl)
|(apply retG2;eq_refl;eq_refl)
|(apply GL_on;eq_refl;eq_refl)
|(apply G_pv;eq_refl;first|exact trivial|omega)
|(apply G_ld;eq_refl;(repeat first|exact In.here|apply In.there|apply In.skip);eq_refl)
|(apply G_ldW;eq_refl;(repeat first|exact In.here|apply In.there|apply In.skip);eq_refl)
|(apply G_cmpT;eq_refl;eq_refl;omega)
|(apply G_cmpF;eq_refl;eq_refl;omega)
|(apply G_len;eq_refl)
|(apply G_box;eq_refl;eq_refl;intro _))
      exact ⟨[.vec icell 1 3 none 0 []], (by repeat first | exact Wk.nil | exact Wk.refl | (apply Wk.cons; (focus ((repeat first | exact Rem.here | apply Rem.there | apply Rem.skip); done))) | apply Wk.nilv | apply Wk.last | apply Wk.drop), none, 0, rfl, rfl⟩
    · repeat' (first
|(apply G_call;eq_refl;eq_refl;(apply hlk;(repeat first|exact In.here|apply In.there|apply In.skip));rintro _ _ (⟨he, rfl, rfl⟩|⟨_, p1, B1, k1, A1, k5, rfl, rfl⟩);(exact absurd ht he))
|(apply GC_seqK;intro K hK)
|(apply hK;clear hK K)
|(apply GC_block)
|(apply GC_region)
|(apply GL_nil)
|(apply thenG_normal)
|(apply GC_skip)
|(apply GC_if_false;eq_refl)
|(apply GL_on;eq_refl;eq_refl)
|(apply G_pv;eq_refl;first|exact trivial|omega)
|(apply G_ld;eq_refl;(repeat first|exact In.here|apply In.there|apply In.skip);eq_refl)
|(apply G_ldW;eq_refl;(repeat first|exact In.here|apply In.there|apply In.skip);eq_refl)
|(apply G_cmpF;eq_refl;eq_refl;omega)
|(apply G_len;eq_refl)
|(apply G_box;eq_refl;eq_refl;intro _))
      rename_i b4 b7 hz9
      have hvl := valT_len m0 s r
      have hvr := valT_row (c := c) z2 z4 z1 z3
      refine GC_loopK [1, 2, 4, 7, 10, 11, 33, 34] (fun i : Nat => [(35, nu i)]) (fun _ => [.vec icell 1 3 A1 k5 (valT c s r), .box p1 103 (rcells c h B1 k1), .vec icell 1 3 B1 k1 (ordM c), .box b7 22 [.slice L ls.length k4], .box b4 29 (ccells c h), .old w none_]) (fun i => i ≤ ls.length ∧ ((ls.take i).all fun l => decide (0 ≤ l) && decide (l ≤ 2 * c.max + 1)) = true) (fun i => ls.length - i) 0 (by repeat first | exact Pick.nil | (apply Pick.cons; eq_refl)) (by repeat first | exact trivial | refine ⟨rfl, ?_⟩) (by repeat first | exact Wk.nil | exact Wk.refl | (apply Wk.cons; (focus ((repeat first | exact Rem.here | apply Rem.there | apply Rem.skip); done))) | apply Wk.nilv | apply Wk.last | apply Wk.drop) ⟨Nat.zero_le _, by simp⟩ ?_
      rintro i ⟨hi, hall⟩
      rcases Nat.lt_or_ge i ls.length with hlt | hge
      · have e5 := List.take_succ_eq_append_getElem hlt
        rw [← gt_nat hlt] at e5
        have g1 := gt_mem (l := ls) (i := (i : Int)) (by omega) (by omega)
        by_cases h0 : 0 ≤ gt ls (i : Int) ∧ gt ls (i : Int) ≤ 2 * c.max + 1
        · repeat' (first
|(apply GC_seqK;intro K hK)
|(apply hK;clear hK K)
|(apply GC_block)
|(apply GC_region)
|(apply GL_nil)
|(apply thenG_normal)
|(apply blockG_normal)
|(apply GC_skip)
|(apply GC_if_true;eq_refl)
|(apply GC_if_false;eq_refl)
|(apply GL_on;eq_refl;eq_refl)
|(apply G_pv;eq_refl;first|exact trivial|omega)
|(apply G_field;eq_refl)
|(apply G_ld;eq_refl;(repeat first|exact In.here|apply In.there|apply In.skip);eq_refl)
|(apply G_rd;eq_refl;(first|(apply Rd.own;(repeat first|exact In.here|apply In.there|apply In.skip);infer_instance)|(apply Rd.old;(repeat first|exact In.here|apply In.there|apply In.skip);assumption)|(apply Rd.oldR;(repeat first|exact In.here|apply In.there|apply In.skip);assumption)|exact Rd.nil|assumption);(case ih => infer_instance);omega;omega;eq_refl)
|(apply G_cmpT;eq_refl;eq_refl;omega)
|(apply G_cmpF;eq_refl;eq_refl;omega)
|(apply G_ix;eq_refl;eq_refl;(first|(apply Rd.own;(repeat first|exact In.here|apply In.there|apply In.skip);infer_instance)|(apply Rd.old;(repeat first|exact In.here|apply In.there|apply In.skip);assumption)|(apply Rd.oldR;(repeat first|exact In.here|apply In.there|apply In.skip);assumption)|exact Rd.nil|assumption);(first|eq_refl|omega);omega;omega))
          exact ⟨i + 1, (by repeat first | exact trivial | refine ⟨rfl, ?_⟩), (by repeat first | exact Wk.nil | exact Wk.refl | (apply Wk.cons; (focus ((repeat first | exact Rem.here | apply Rem.there | apply Rem.skip); done))) | apply Wk.nilv | apply Wk.last | apply Wk.drop), ⟨hlt, by rw [e5, List.all_append, hall]; simp [h0.1, h0.2]⟩, by omega⟩
        · have hf : (ls.all fun l => decide (0 ≤ l) && decide (l ≤ 2 * c.max + 1)) = false := by
            cases hb : (ls.all fun l => decide (0 ≤ l) && decide (l ≤ 2 * c.max + 1))
            · rfl
            · exact absurd (lits_in hb _ g1) h0
          have e0 := lfE_rg ht hlg hf
          have e1 : lfM c s r ls = [] := if_neg (by rw [e0]; decide)
          by_cases h1 : gt ls (i : Int) < 0
          · repeat' (first
|(apply GC_seqK;intro K hK)
|(apply hK;clear hK K)
|(apply GC_block)
|(apply GC_region)
|(apply GL_nil)
|(apply thenG_normal)
|(apply thenG_ret)
|(apply blockG_ret)
|(apply GC_ret)
|(apply GC_skip)
|(apply GC_if_true;eq_refl)
|(apply retG2;eq_refl;eq_refl)
|(apply GL_on;eq_refl;eq_refl)
|(apply GL_off;eq_refl;eq_refl)
|(apply G_pv;eq_refl;first|exact trivial|omega)
|(apply G_rd;eq_refl;(first|(apply Rd.own;(repeat first|exact In.here|apply In.there|apply In.skip);infer_instance)|(apply Rd.old;(repeat first|exact In.here|apply In.there|apply In.skip);assumption)|(apply Rd.oldR;(repeat first|exact In.here|apply In.there|apply In.skip);assumption)|exact Rd.nil|assumption);(case ih => infer_instance);omega;omega;eq_refl)
|(apply G_cmpT;eq_refl;eq_refl;omega)
|(apply G_ix;eq_refl;eq_refl;(first|(apply Rd.own;(repeat first|exact In.here|apply In.there|apply In.skip);infer_instance)|(apply Rd.old;(repeat first|exact In.here|apply In.there|apply In.skip);assumption)|(apply Rd.oldR;(repeat first|exact In.here|apply In.there|apply In.skip);assumption)|exact Rd.nil|assumption);(first|eq_refl|omega);omega;omega))
            exact ⟨[.vec icell 1 3 none 0 []], (by repeat first | exact Wk.nil | exact Wk.refl | (apply Wk.cons; (focus ((repeat first | exact Rem.here | apply Rem.there | apply Rem.skip); done))) | apply Wk.nilv | apply Wk.last | apply Wk.drop), none, 0, by rw [e0, e1]; rfl, by rw [e1]⟩
          · repeat' (first
|(apply GC_seqK;intro K hK)
|(apply hK;clear hK K)
|(apply GC_block)
|(apply GC_region)
|(apply GL_nil)
|(apply thenG_normal)
|(apply thenG_ret)
|(apply blockG_ret)
|(apply GC_ret)
|(apply GC_skip)
|(apply GC_if_true;eq_refl)
|(apply retG2;eq_refl;eq_refl)
|(apply GL_on;eq_refl;eq_refl)
|(apply G_pv;eq_refl;first|exact trivial|omega)
|(apply G_field;eq_refl)
|(apply G_ld;eq_refl;(repeat first|exact In.here|apply In.there|apply In.skip);eq_refl)
|(apply G_rd;eq_refl;(first|(apply Rd.own;(repeat first|exact In.here|apply In.there|apply In.skip);infer_instance)|(apply Rd.old;(repeat first|exact In.here|apply In.there|apply In.skip);assumption)|(apply Rd.oldR;(repeat first|exact In.here|apply In.there|apply In.skip);assumption)|exact Rd.nil|assumption);(case ih => infer_instance);omega;omega;eq_refl)
|(apply G_cmpT;eq_refl;eq_refl;omega)
|(apply G_cmpF;eq_refl;eq_refl;omega)
|(apply G_ix;eq_refl;eq_refl;(first|(apply Rd.own;(repeat first|exact In.here|apply In.there|apply In.skip);infer_instance)|(apply Rd.old;(repeat first|exact In.here|apply In.there|apply In.skip);assumption)|(apply Rd.oldR;(repeat first|exact In.here|apply In.there|apply In.skip);assumption)|exact Rd.nil|assumption);(first|eq_refl|omega);omega;omega))
            exact ⟨[.vec icell 1 3 none 0 []], (by repeat first | exact Wk.nil | exact Wk.refl | (apply Wk.cons; (focus ((repeat first | exact Rem.here | apply Rem.there | apply Rem.skip); done))) | apply Wk.nilv | apply Wk.last | apply Wk.drop), none, 0, by rw [e0, e1]; rfl, by rw [e1]⟩
      · rw [List.take_of_length_le hge] at hall
        have hin := lits_in hall
        have hls : ∀ l ∈ ls, 0 ≤ l / 2 ∧ l / 2 < ((c.max + 1).toNat : Int) := fun l hm => by have := hin l hm; unfold inR at this; omega
        have hwr : ∀ Γ A k v, In Γ (.old w none_) → In Γ (.box b7 22 [.slice L ls.length k4]) → In Γ (.vec icell 1 3 A k v) → Row3 v → v.length = (c.max + 1).toNat → ∀ w', Mem w' Γ → CVN Tryd.prog 40 ([.slice A v.length k] ++ (#[pt b7] : Array Value).toList) w' fun r N => N = [] ∧ r = .bool (!onesT v ls) := fun Γ A k v ho hb hv q1 q2 w' M => wrong_cv (G.chg (ho.old M)) (hb.box M) (hL.chg (ho.old M)) (hv.row M) q1 (fun l hm => by rw [q2]; exact hls l hm) (by omega) (by omega)
        have hw0 := fun Γ ho hb hv w' M => hwr Γ A1 k5 (valT c s r) ho hb hv hvr hvl w' M
        cases ho1 : onesT (valT c s r) ls
        · have e0 := lfE_no ht hlg hall ho1
          have e1 : lfM c s r ls = [] := if_neg (by rw [e0]; decide)
          rw [ho1] at hw0
          repeat' (first
|(apply G_callF;eq_refl;eq_refl;infer_instance;eq_refl;(apply hw0;(repeat first|exact In.here|apply In.there|apply In.skip);(repeat first|exact In.here|apply In.there|apply In.skip);(repeat first|exact In.here|apply In.there|apply In.skip));rintro _ _ ⟨rfl, rfl⟩)
|(apply GC_seqK;intro K hK)
|(apply hK;clear hK K)
|(clear hK K;apply hK;clear hK K)
|(apply GC_region)
|(apply GL_nil)
|(apply thenG_normal)
|(apply thenG_ret)
|(apply thenG_exit)
|(apply blockG_hit)
|(apply GC_ret)
|(apply GC_exit)
|(apply GC_if_true;eq_refl)
|(apply GC_if_false;eq_refl)
|(apply retG2;eq_refl;eq_refl)
|(apply GL_on;eq_refl;eq_refl)
|(apply G_pv;eq_refl;first|exact trivial|omega)
|(apply G_cmpF;eq_refl;eq_refl;omega)
|(apply G_fun;eq_refl))
          exact ⟨[.vec icell 1 3 none 0 []], (by repeat first | exact Wk.nil | exact Wk.refl | (apply Wk.cons; (focus ((repeat first | exact Rem.here | apply Rem.there | apply Rem.skip); done))) | apply Wk.nilv | apply Wk.last | apply Wk.drop), none, 0, by rw [e0, e1]; rfl, by rw [e1]⟩
        · have e0 := lfE_ok ht hlg hall ho1
          have e1 : lfM c s r ls = lfT c s r ls s.length := if_pos e0
          rw [ho1] at hw0
          repeat' (first
|(apply G_callF;eq_refl;eq_refl;infer_instance;eq_refl;(apply hw0;(repeat first|exact In.here|apply In.there|apply In.skip);(repeat first|exact In.here|apply In.there|apply In.skip);(repeat first|exact In.here|apply In.there|apply In.skip));rintro _ _ ⟨rfl, rfl⟩)
|(apply G_call;eq_refl;eq_refl;(apply hcl;(repeat first|exact In.here|apply In.there|apply In.skip));rintro _ _ ⟨A16, k16, rfl, rfl⟩)
|(apply GC_seqK;intro K hK)
|(apply hK;clear hK K)
|(clear hK K;apply hK;clear hK K)
|(apply GC_block)
|(apply GC_region)
|(apply GL_nil)
|(apply thenG_normal)
|(apply thenG_exit)
|(apply blockG_hit)
|(apply GC_exit)
|(apply GC_skip)
|(apply GC_if_false;eq_refl)
|(apply GL_on;eq_refl;eq_refl)
|(apply G_pv;eq_refl;first|exact trivial|omega)
|(apply G_cmpF;eq_refl;eq_refl;omega)
|(apply G_len;eq_refl)
|(apply G_fun;eq_refl))
          refine GC_loopK [2, 10, 15, 16, 56, 57] (fun i : Nat => [(58, nu i)]) (fun i => [.vec icell 1 3 A16 k16 (lfT c s r ls i), .box p1 103 (rcells c h B1 k1), .vec icell 1 3 B1 k1 (ordM c), .box b7 22 [.slice L ls.length k4], .old w none_]) (fun i => i ≤ s.length) (fun i => s.length - i) 0 (by repeat first | exact Pick.nil | (apply Pick.cons; eq_refl)) (by repeat first | exact trivial | refine ⟨rfl, ?_⟩) (by repeat first | exact Wk.nil | exact Wk.refl | (apply Wk.cons; (focus ((repeat first | exact Rem.here | apply Rem.there | apply Rem.skip); done))) | apply Wk.nilv | apply Wk.last | apply Wk.drop) (Nat.zero_le _) ?_
          intro i hi
          have hol := lfT_len (c := c) (s := s) (r := r) (ls := ls) i
          rcases Nat.lt_or_ge i s.length with hlt | hge
          · have hor := lfT_row (c := c) (r := r) (ls := ls) z2 i
            have hbk := lf_back (c := c) (r := r) (ls := ls) hlt
            have hyes := lf_yes (c := c) (s := s) (r := r) (ls := ls) (i := i)
            have hno := lf_no (c := c) (s := s) (r := r) (ls := ls) (i := i)
            generalize hO : lfT c s r ls i = O at *
            have hl2 : (O.set (i : Int).toNat 2).length = s.length := by rw [List.length_set]; exact hol
            have hr2 : Row3 (O.set (i : Int).toNat 2) := hor.set Is3.two
            have hvl2 := valT_len m0 (O.set (i : Int).toNat 2) r
            have hvr2 := valT_row (c := c) hr2 z4 (by omega) z3
            have hv : ∀ Γ, In Γ (.old w none_) → In Γ (.box p1 103 (rcells c h B1 k1)) → In Γ (.vec icell 1 3 B1 k1 (ordM c)) → In Γ (.vec icell 1 3 A16 k16 (O.set (i : Int).toNat 2)) → ∀ w', Mem w' Γ → CVN Tryd.prog 45 [pt p1, .slice A16 s.length k16, .slice T r.length k3] w' _ := fun Γ hi hb ho ha w' M => by
              have := valuesT_cv (k2 := k16) (k3 := k3) (G.chg (hi.old M)) R (hb.box M) (H.at_.chg (hi.old M)) (ho.row M) (ha.row M) (hT.chg (hi.old M)) (by omega) z3 hr2 z4
              rw [hl2] at this
              exact this
            generalize hV : valT c (O.set (i : Int).toNat 2) r = V at *
            have hw1 := fun Γ A k ho hb hv w' M => hwr Γ A k V ho hb hv hvr2 hvl2 w' M
            cases ho2 : onesT V ls
            · have e6 := hno ho2
              rw [ho2] at hw1
              repeat' (first
|(apply G_call;eq_refl;eq_refl;(apply hv;(repeat first|exact In.here|apply In.there|apply In.skip);(repeat first|exact In.here|apply In.there|apply In.skip);(repeat first|exact In.here|apply In.there|apply In.skip);(repeat first|exact In.here|apply In.there|apply In.skip));rintro _ _ ⟨A70, k70, rfl, rfl⟩)
|(apply G_callF;eq_refl;eq_refl;infer_instance;eq_refl;(apply hw1;(repeat first|exact In.here|apply In.there|apply In.skip);(repeat first|exact In.here|apply In.there|apply In.skip);(repeat first|exact In.here|apply In.there|apply In.skip));rintro _ _ ⟨rfl, rfl⟩)
|(apply GC_seqK;intro K hK)
|(apply hK;clear hK K)
|(apply GC_block)
|(apply GC_region)
|(apply GL_nil)
|(apply thenG_normal)
|(apply blockG_normal)
|(apply GC_skip)
|(apply GC_if_true;eq_refl)
|(apply GL_on;eq_refl;eq_refl)
|(apply G_pv;eq_refl;first|exact trivial|omega)
|(apply G_rd;eq_refl;(first|(apply Rd.own;(repeat first|exact In.here|apply In.there|apply In.skip);infer_instance)|(apply Rd.old;(repeat first|exact In.here|apply In.there|apply In.skip);assumption)|(apply Rd.oldR;(repeat first|exact In.here|apply In.there|apply In.skip);assumption)|exact Rd.nil|assumption);(case ih => infer_instance);omega;omega;eq_refl)
|(apply G_cmpT;eq_refl;eq_refl;omega)
|(apply G_ix;eq_refl;eq_refl;(first|(apply Rd.own;(repeat first|exact In.here|apply In.there|apply In.skip);infer_instance)|(apply Rd.old;(repeat first|exact In.here|apply In.there|apply In.skip);assumption)|(apply Rd.oldR;(repeat first|exact In.here|apply In.there|apply In.skip);assumption)|exact Rd.nil|assumption);(first|eq_refl|omega);omega;omega)
|(apply G_stV;(first|exact wr_p|kernel_rfl);eq_refl;eq_refl;eq_refl;eq_refl;(repeat first|exact Upd.here|apply Upd.there|apply Upd.skip);infer_instance;infer_instance;eq_refl;omega;(try simp only [List.length_set, List.length_append, List.length_replicate]);omega))
              rw [hbk, ← e6]
              exact ⟨i + 1, (by repeat first | exact trivial | refine ⟨rfl, ?_⟩), (by repeat first | exact Wk.nil | exact Wk.refl | (apply Wk.cons; (focus ((repeat first | exact Rem.here | apply Rem.there | apply Rem.skip); done))) | apply Wk.nilv | apply Wk.last | apply Wk.drop), hlt, by omega⟩
            · have e6 := hyes ho2
              rw [ho2] at hw1
              repeat' (first
|(apply G_call;eq_refl;eq_refl;(apply hv;(repeat first|exact In.here|apply In.there|apply In.skip);(repeat first|exact In.here|apply In.there|apply In.skip);(repeat first|exact In.here|apply In.there|apply In.skip);(repeat first|exact In.here|apply In.there|apply In.skip));rintro _ _ ⟨A70, k70, rfl, rfl⟩)
|(apply G_callF;eq_refl;eq_refl;infer_instance;eq_refl;(apply hw1;(repeat first|exact In.here|apply In.there|apply In.skip);(repeat first|exact In.here|apply In.there|apply In.skip);(repeat first|exact In.here|apply In.there|apply In.skip));rintro _ _ ⟨rfl, rfl⟩)
|(apply GC_seqK;intro K hK)
|(apply hK;clear hK K)
|(apply GC_block)
|(apply GC_region)
|(apply GL_nil)
|(apply thenG_normal)
|(apply blockG_normal)
|(apply GC_skip)
|(apply GC_if_true;eq_refl)
|(apply GC_if_false;eq_refl)
|(apply GL_on;eq_refl;eq_refl)
|(apply G_pv;eq_refl;first|exact trivial|omega)
|(apply G_rd;eq_refl;(first|(apply Rd.own;(repeat first|exact In.here|apply In.there|apply In.skip);infer_instance)|(apply Rd.old;(repeat first|exact In.here|apply In.there|apply In.skip);assumption)|(apply Rd.oldR;(repeat first|exact In.here|apply In.there|apply In.skip);assumption)|exact Rd.nil|assumption);(case ih => infer_instance);omega;omega;eq_refl)
|(apply G_cmpT;eq_refl;eq_refl;omega)
|(apply G_ix;eq_refl;eq_refl;(first|(apply Rd.own;(repeat first|exact In.here|apply In.there|apply In.skip);infer_instance)|(apply Rd.old;(repeat first|exact In.here|apply In.there|apply In.skip);assumption)|(apply Rd.oldR;(repeat first|exact In.here|apply In.there|apply In.skip);assumption)|exact Rd.nil|assumption);(first|eq_refl|omega);omega;omega)
|(apply G_stV;(first|exact wr_p|kernel_rfl);eq_refl;eq_refl;eq_refl;eq_refl;(repeat first|exact Upd.here|apply Upd.there|apply Upd.skip);infer_instance;infer_instance;eq_refl;omega;(try simp only [List.length_set, List.length_append, List.length_replicate]);omega))
              rw [← e6]
              exact ⟨i + 1, (by repeat first | exact trivial | refine ⟨rfl, ?_⟩), (by repeat first | exact Wk.nil | exact Wk.refl | (apply Wk.cons; (focus ((repeat first | exact Rem.here | apply Rem.there | apply Rem.skip); done))) | apply Wk.nilv | apply Wk.last | apply Wk.drop), hlt, by omega⟩
          · obtain rfl : i = s.length := by omega
            repeat' (first
|(apply GC_seqK;intro K hK)
|(apply hK;clear hK K)
|(clear hK K;apply hK;clear hK K)
|(apply GC_region)
|(apply GL_nil)
|(apply thenG_normal)
|(apply thenG_exit)
|(apply blockG_hit)
|(apply GC_ret)
|(apply GC_exit)
|(apply GC_if_false;eq_refl)
|(apply retG2;eq_refl;eq_refl)
|(apply GL_on;eq_refl;eq_refl)
|(apply G_pv;eq_refl;first|exact trivial|omega)
|(apply G_cmpF;eq_refl;eq_refl;omega))
            refine ⟨[.vec icell 1 3 A16 k16 (lfT c s r ls s.length)], (by repeat first | exact Wk.nil | exact Wk.refl | (apply Wk.cons; (focus ((repeat first | exact Rem.here | apply Rem.there | apply Rem.skip); done))) | apply Wk.nilv | apply Wk.last | apply Wk.drop), A16, k16, by rw [e0, e1, hol], by rw [e1]⟩
  · have e0 := lfE_tw (ls := ls) ht
    have e1 : lfM c s r ls = [] := if_neg (by rw [e0]; exact ht)
    rw [e0, e1]
    repeat' (first
|(apply G_call;eq_refl;eq_refl;(apply hlk;(repeat first|exact In.here|apply In.there|apply In.skip));rintro _ _ (⟨_, rfl, rfl⟩|⟨he, p1, B1, k1, A1, k5, rfl, rfl⟩);rotate_left;(exact absurd he ht))
|(apply GC_seqK;intro K hK)
|(apply hK;clear hK K)
|(apply GC_region)
|(apply GL_nil)
|(apply thenG_normal)
|(apply thenG_ret)
|(apply GC_ret)
|(apply GC_if_true;eq_refl)
|(apply retG2;eq_refl;eq_refl)
|(apply GL_on;eq_refl;eq_refl)
|(apply G_pv;eq_refl;first|exact trivial|omega)
|(apply G_ldW;eq_refl;(repeat first|exact In.here|apply In.there|apply In.skip);eq_refl)
|(apply G_cmpT;eq_refl;eq_refl;omega)
|(apply G_box;eq_refl;eq_refl;intro _))
    exact ⟨[.vec icell 1 3 none 0 []], (by repeat first | exact Wk.nil | exact Wk.refl | (apply Wk.cons; (focus ((repeat first | exact Rem.here | apply Rem.there | apply Rem.skip); done))) | apply Wk.nilv | apply Wk.last | apply Wk.drop), none, 0, rfl, rfl⟩
end
end SC
end Go.Proofs.YtclihihdgodloaaDoor
end
section
/- trestleref08.Lift; Lit of both. -/
set_option linter.unusedVariables false
set_option linter.unusedSimpArgs false
namespace Go.Proofs.YtclihihdgodloaaDoor
namespace SC
open Go.Proofs
attribute [local irreducible] WC WL WX WS WO OX Does DoesU Enters CV Pure thenQ blockQ retQ Wants retQC GC GL GS GX RdB thenG blockG retG Rd At gt CVN CVM
set_option maxRecDepth 100000
section
variable {w : World} {c : Circ} {h js : Hd} {S T L : Option Addr} {k2 k3 k4 : Nat} {s r ls : List Int} (H : CirIn w c h js) (hS : RowA w icell 1 S s) (hT : RowA w icell 1 T r) (hL : RowA w icell 1 L ls) (hz : S = none → k2 = 0) (hs : s.length ≤ 17592186044000) (hr : r.length ≤ 9223372036854775807) (hl : ls.length ≤ 9223372036854775807)
include H hS hT hL hz hs hr hl
end
/-! ### Lit -/
end SC
end Go.Proofs.YtclihihdgodloaaDoor
end
section
/- trestlelaw08: works, names. -/
set_option linter.unusedVariables false
set_option linter.unusedSimpArgs false
namespace Go.Proofs.YtclihihdgodloaaDoor
namespace SC
open Go.Proofs
def cT : Circ := ⟨3, [], [(2, 3, 0), (4, 4, 0)], [], [], [], [], [], [(6, 3, 5)], [], []⟩
theorem cT_sizes : sizesM cT = 0 := by
  unfold sizesM
  rw [if_neg (by simp [cT]), if_neg]
  simp [cT, Circ.lens, sumW, sumL]; decide
theorem cT_defs : definesM cT (T0 cT) = ((0, 0), [(0, 0), (2, 0), (2, 1), (3, 0)]) := by decide
theorem cT_tab : tabM cT = [(0, 0), (2, 0), (2, 1), (3, 0)] := by unfold tabM; rw [cT_defs]
theorem cT_uses : usesM cT (tabM cT) = (0, 0) := by rw [cT_tab]; decide
theorem cT_below : gateB (tabM cT) cT 0 = [] := by rw [cT_tab]; decide
theorem cT_all : All 1 (gateB (tabM cT) cT) [0] := by
  have h0 : ∀ x, rg 1 x → x = 0 := fun x hx => by unfold rg at hx; omega
  refine ⟨?_, fun x hx => hx.new (by rw [h0 x hx.rg]; simp)⟩
  have : Told 1 (gateB (tabM cT) cT) ([] ++ [0]) := .snoc .nil ⟨by unfold rg; omega, by simp, by rw [cT_below]; simp⟩ fun y hy => by rw [h0 y hy.rg]; exact Int.le_refl _
  exact this
theorem cT_look : (lookM cT).2 = 0 := by
  have hc : cycM cT.ands.length (gateB (tabM cT) cT) = -1 := cycM_eq ⟨[0], cT_all, .inl ⟨rfl, rfl⟩⟩
  unfold lookM
  rw [cT_sizes, cT_defs, cT_uses, hc]
  simp [cT, goSym, goCom]
theorem cT_ord : ordM cT = [0] := ordM_eq cT_all
theorem cT_sane : cT.Sane := ⟨by simp [cT], by simp [cT], by simp [cT], by simp [cT], by simp [cT], by simp [cT]⟩
theorem cT_okay : cT.Okay := ⟨by simp [cT, Circ.lens], by simp [cT], (by intro x hx; simp [cT] at hx; rcases hx with rfl | rfl <;> simp [TriFits, fit64, fits]), (by intro x hx; simp [cT] at hx; subst hx; simp [TriFits, fit64, fits]), by simp [cT]⟩
theorem cT_fits : cT.Fits := ⟨by simp [cT], by simp [cT], by simp [cT], by simp [cT], by simp [cT], by simp [cT], by simp [cT], by simp [cT], by simp [cT], by simp [cT], by simp [cT]⟩
def hTn (a b : Nat) : Hd := fun | 2 => (some ⟨a, 0, none⟩, 2) | 8 => (some ⟨b, 0, none⟩, 1) | _ => (none, 0)
theorem cT_in {w : World} {a b : Nat} (ha : Blk w a 59 [nu 2, nu 3, nu 0, nu 4, nu 4, nu 0]) (hb : Blk w b 61 [nu 6, nu 3, nu 5]) : CirIn w cT (hTn a b) hNil :=
  ⟨⟨RowA.emp, RowA.blk (l := [(2, 3, 0), (4, 4, 0)]) tlen ha, RowA.emp, RowA.emp, RowA.emp, fun k hk => absurd hk (Nat.not_lt_zero _), fun k hk => absurd hk (Nat.not_lt_zero _), RowA.emp, RowA.blk (l := [(6, 3, 5)]) tlen hb, RowA.emp, RowA.emp⟩, cT_sane, cT_okay, cT_fits⟩
theorem cT_val (s r : List Int) : valT cT s r = tAn cT [0] (tLt cT s (tIn cT r 0) 2) 1 := by
  unfold valT
  rw [cT_ord]
  rfl
theorem cT_set (a : List Int) : setT cT a = joinT a (nxtT cT (tAn cT [0] (tLt cT a (tIn cT [] 0) 2) 1)) := by
  unfold setT
  rw [cT_val]
  rfl
theorem cT_st0 : stT cT 0 = [0, 0] := by decide
theorem cT_st1 : stT cT 1 = [2, 0] := by
  show setT cT (stT cT 0) = _
  rw [cT_st0, cT_set]
  decide
theorem cT_fix : setT cT [2, 0] = [2, 0] := by rw [cT_set]; decide
theorem cT_nS : nS cT = 1 := by
  rcases Nat.lt_trichotomy (nS cT) 1 with h | h | h
  · have h0 : nS cT = 0 := by omega
    have := nS_fix cT
    rw [h0] at this
    have h1 : setT cT (stT cT 0) = stT cT 1 := rfl
    rw [h1, cT_st0, cT_st1] at this
    exact absurd this (by decide)
  · exact h
  · have := nS_not cT h
    rw [cT_st1] at this
    exact absurd cT_fix this
theorem cT_sM : sM cT = [2, 0] := by
  have : sM cT = stT cT (nS cT) := if_pos cT_look
  rw [this, cT_nS, cT_st1]
theorem cT_sN : sN cT = 1 := by
  have : sN cT = (nS cT : Int) := if_pos cT_look
  rw [this, cT_nS]
  rfl
theorem cT_tw : twE cT [1, 1] [] = 0 := twE_ok cT_look (by decide) (by decide)
theorem cT_lfE : lfE cT [1, 1] [] [7] = 0 := lfE_ok cT_tw (by decide) (by decide) (by rw [cT_val]; decide)
theorem cT_lfM : lfM cT [1, 1] [] [7] = [2, 1] := by
  have h0 : lfM cT [1, 1] [] [7] = lfT cT [1, 1] [] [7] 2 := if_pos cT_lfE
  have h1 : lfT cT [1, 1] [] [7] 1 = [2, 1] := by
    show (if onesT (valT cT ([1, 1].set 0 2) []) [7] = true then [1, 1].set 0 2 else [1, 1]) = _
    rw [cT_val]
    decide
  have h2 : lfT cT [1, 1] [] [7] 2 = [2, 1] := by
    show (if onesT (valT cT ((lfT cT [1, 1] [] [7] 1).set 1 2) []) [7] = true then (lfT cT [1, 1] [] [7] 1).set 1 2 else lfT cT [1, 1] [] [7] 1) = _
    rw [h1, cT_val]
    decide
  rw [h0, h2]
attribute [local irreducible] WC WL WX WS WO OX Does DoesU Enters CV Pure thenQ blockQ retQ Wants retQC GC GL GS GX RdB thenG blockG retG Rd At CVN CVM
set_option maxRecDepth 100000
set_option maxHeartbeats 1600000 in
theorem works8_cv {w : World} (G : TabG w) : CVN Tryd.prog 18 [] w fun v N => N = [] ∧ v = .bool true := by
  have hS : ∀ Γ a b, In Γ (.old w none_) → In Γ (.box a 59 [nu 2, nu 3, nu 0, nu 4, nu 4, nu 0]) → In Γ (.box b 61 [nu 6, nu 3, nu 5]) → ∀ w', Mem w' Γ → CVN Tryd.prog 19 [.agg (ccells cT (hTn a b)).toArray] w' fun v N => ∃ A k, v = .tuple #[.slice A 2 k, nu 1, nu 0] ∧ N = [.vec icell 1 3 A k [2, 0]] := fun Γ a b ho h1 h2 w' M => by
    have := SettleP_cv (G.chg (ho.old M)) (cT_in (h1.box M) (h2.box M))
    unfold SetV at this
    rwa [cT_sM, cT_sN, cT_look] at this
  have hL : ∀ Γ a b x y, In Γ (.old w none_) → In Γ (.box a 59 [nu 2, nu 3, nu 0, nu 4, nu 4, nu 0]) → In Γ (.box b 61 [nu 6, nu 3, nu 5]) → In Γ (.box x 3 [nu 1, nu 1]) → In Γ (.box y 3 [nu 7]) → ∀ w', Mem w' Γ → CVN Tryd.prog 12 [.agg (ccells cT (hTn a b)).toArray, .slice (some ⟨x, 0, none⟩) 2 2, .slice none 0 0, .slice (some ⟨y, 0, none⟩) 1 1] w' fun v N => ∃ A k, v = .tuple #[.slice A 2 k, nu 0] ∧ N = [.vec icell 1 3 A k [2, 1]] := fun Γ a b x y ho h1 h2 h3 h4 w' M => by
    have := LiftP_cv (s := [1, 1]) (r := []) (ls := [7]) (S := some ⟨x, 0, none⟩) (T := none) (L := some ⟨y, 0, none⟩) (k2 := 2) (k3 := 0) (k4 := 1) (cT_in (h1.box M) (h2.box M)) (RowA.blk (l := [1, 1]) ilen (h3.box M)) RowA.emp (RowA.blk (l := [7]) ilen (h4.box M)) (by decide) (by decide) (by decide) (G.chg (ho.old M))
    unfold IntsE at this
    rwa [cT_lfM, cT_lfE] at this
  refine CVN.enter 70 [0] Tryd.func18 rfl rfl rfl (by decide) rfl ?_
  repeat' (first
|(apply G_cmpT;eq_refl;eq_refl;(exact rfl))
|(apply G_ix;eq_refl;eq_refl;(first|(apply Rd.own;(repeat first|exact In.here|apply In.there|apply In.skip);infer_instance)|(apply Rd.old;(repeat first|exact In.here|apply In.there|apply In.skip);assumption)|(apply Rd.oldR;(repeat first|exact In.here|apply In.there|apply In.skip);assumption)|exact Rd.nil|assumption);eq_refl;(focus simp);(first|(exact (show (0 : Int) < ((2 : Nat) : Int) by decide))|(exact (show (1 : Int) < ((2 : Nat) : Int) by decide))))
|(apply G_rd;eq_refl;(first|(apply Rd.own;(repeat first|exact In.here|apply In.there|apply In.skip);infer_instance)|(apply Rd.old;(repeat first|exact In.here|apply In.there|apply In.skip);assumption)|(apply Rd.oldR;(repeat first|exact In.here|apply In.there|apply In.skip);assumption)|exact Rd.nil|assumption);(case ih => infer_instance);(focus simp);(first|(exact (show (0 : Int) < ((2 : Nat) : Int) by decide))|(exact (show (1 : Int) < ((2 : Nat) : Int) by decide)));eq_refl)
|(apply G_call;eq_refl;eq_refl;(apply hS;(repeat first|exact In.here|apply In.there|apply In.skip);(repeat first|exact In.here|apply In.there|apply In.skip);(repeat first|exact In.here|apply In.there|apply In.skip));rintro _ _ ⟨A1, k1, rfl, rfl⟩)
|(apply G_call;eq_refl;eq_refl;(apply hL;(repeat first|exact In.here|apply In.there|apply In.skip);(repeat first|exact In.here|apply In.there|apply In.skip);(repeat first|exact In.here|apply In.there|apply In.skip);(repeat first|exact In.here|apply In.there|apply In.skip);(repeat first|exact In.here|apply In.there|apply In.skip));rintro _ _ ⟨A2, k2, rfl, rfl⟩)
|(apply GC_seqK;intro K hK)
|(apply hK;clear hK K)
|(apply GC_region)
|(apply GL_nil)
|(apply thenG_normal)
|(apply GC_ret)
|(apply retG1;eq_refl)
|(apply GL_on;eq_refl;eq_refl)
|(apply G_pv;eq_refl;first|exact trivial|omega)
|(apply G_ldW;eq_refl;(repeat first|exact In.here|apply In.there|apply In.skip);eq_refl)
|(apply G_len;eq_refl)
|(apply G_alloc;eq_refl;intro _)
|(apply G_stW;(first|exact wr_p|kernel_rfl);eq_refl;eq_refl;eq_refl;eq_refl;(repeat first|exact Upd.here|apply Upd.there|apply Upd.skip);eq_refl)
|(apply GX_pure;apply build59_0_1 <;> eq_refl)
|(apply GX_pure;apply build61_0_1_2 <;> eq_refl)
|(apply GX_pure;apply build29_0_2_8 <;> eq_refl)
|(apply G_new (fun b => .slice (some ⟨b, 0, none⟩) 2 2);eq_refl;(intro _;apply buildS23_2 <;> eq_refl);intro _)
|(apply G_new (fun b => .slice (some ⟨b, 0, none⟩) 1 1);eq_refl;(intro _;apply buildS25_1 <;> eq_refl);intro _)
|(apply G_new (fun b => .slice (some ⟨b, 0, none⟩) 2 2);eq_refl;(intro _;apply buildS22_2 <;> eq_refl);intro _)
|(apply G_new (fun b => .slice (some ⟨b, 0, none⟩) 1 1);eq_refl;(intro _;apply buildS22_1 <;> eq_refl);intro _))
  exact ⟨[], (by repeat first | exact Wk.nil | exact Wk.refl | (apply Wk.cons; (focus ((repeat first | exact Rem.here | apply Rem.there | apply Rem.skip); done))) | apply Wk.nilv | apply Wk.last | apply Wk.drop), rfl, rfl⟩
end SC
end Go.Proofs.YtclihihdgodloaaDoor
end
section
/- trestlelaw08: TernSteps, TernSettles, TernRows, TernLifts: the walks. -/
set_option linter.unusedVariables false
set_option linter.unusedSimpArgs false
namespace Go.Proofs.YtclihihdgodloaaDoor
namespace SC
open Go.Proofs
attribute [local irreducible] WC WL WX WS WO OX Does DoesU Enters CV Pure thenQ blockQ retQ Wants retQC GC GL GS GX RdB thenG blockG retG Rd At gt CVN CVM
attribute [local irreducible] lentX bun
set_option maxRecDepth 100000
theorem sameV {Γ : Mm} {w : World} {A B : Option Addr} {k k' : Nat} {m : List Int} (h1 : In Γ (.vec icell 1 3 A k m)) (h2 : In Γ (.vec icell 1 3 B k' m)) (M : Mem w Γ) : CVN Tryd.prog 14 [.slice A m.length k, .slice B m.length k'] w fun v N => N = [] ∧ v = .bool true := sameIntsG (h1.row M) (h2.row M) (vec_len (h1.ok M))
set_option maxHeartbeats 1600000 in
theorem ternSettles_cv {w : World} {c : Circ} {h js : Hd} (G : TabG w) (H : CirGot w c h js) : CVN Tryd.prog 4 [.agg (ccells c h).toArray] w fun v N => N = [] ∧ v = .bool true := by
  have hL : ∀ Γ, In Γ (.old w none_) → ∀ w', Mem w' Γ → CVN Tryd.prog 10 [.agg (ccells c h).toArray] w' (LendR c) := fun Γ hi w' M => LendG (H.at_.chg (hi.old M)) H.fits1 H.nils
  have hV1 : ∀ Γ base h' js', In Γ (.old w none_) → In Γ (.any (lentX base c h' js')) → ∀ w', Mem w' Γ → CVN Tryd.prog 19 [.agg (ccells c h').toArray] w' (SetV c) := fun Γ base h' js' ho hi w' M => SettleP_cv (G.chg (ho.old M)) (In.lent H.toCirIn hi M)
  have hV2 : ∀ Γ, In Γ (.old w none_) → ∀ w', Mem w' Γ → CVN Tryd.prog 20 [.agg (ccells c h).toArray] w' (SetV c) := fun Γ ho w' M => SettleR_cv (H.toCirIn.chg (ho.old M))
  have hS1 : ∀ Γ base h' js', In Γ (.any (lentX base c h' js')) → ∀ w', Mem w' Γ → CVN Tryd.prog 21 [.agg (ccells c h').toArray] w' (IntsE (trsM c) (lookM c).2) := fun Γ base h' js' hi w' M => ResetsP_cv (In.lent H.toCirIn hi M)
  have hS2 : ∀ Γ, In Γ (.old w none_) → ∀ w', Mem w' Γ → CVN Tryd.prog 22 [.agg (ccells c h).toArray] w' (IntsE (trsM c) (lookM c).2) := fun Γ ho w' M => ResetsRT_cv (H.toCirIn.chg (ho.old M))
  have hKp : ∀ Γ base h' js', In Γ (.any (lentX base c h' js')) → In Γ (.old w none_) → ∀ w', Mem w' Γ → CVN Tryd.prog 16 [.agg (ccells c h').toArray, .agg (ccells c h).toArray] w' _ := fun Γ base h' js' hi ho w' M => KeptG H hi ho M
  have hW : ∀ Γ, In Γ (.old w none_) → ∀ w', Mem w' Γ → CVN Tryd.prog 18 [] w' _ := fun Γ ho w' M => works8_cv (G.chg (ho.old M))
  have hsp : ∀ (A : Option Addr) (q : Nat) (m : List Int) (mk : Int), ∀ w', Mem w' [.vec icell 1 3 A q m] → CVM Tryd.prog 15 [.slice A m.length q, nu mk] w' [.vec icell 1 3 A q m] fun v N => N = [] := fun A q m mk w' M => spoilIntsG M
  refine CVN.enter 73 [2] Tryd.func4 rfl rfl rfl (by decide) rfl ?_
  unfold IntsE at hS1 hS2
  unfold SetV at hV1 hV2
  generalize sM c = m1 at *
  generalize sN c = n1 at *
  generalize trsM c = m2 at *
  generalize (lookM c).2 = ε at *
  repeat' (first
|(apply G_call;eq_refl;eq_refl;(apply hL;(repeat first|exact In.here|apply In.there|apply In.skip));rintro _ _ ⟨base, h', js', rfl, rfl⟩)
|(apply GC_seqK;intro K hK)
|(apply hK;clear hK K)
|(apply GC_region)
|(apply GL_nil)
|(apply thenG_normal)
|(apply GL_on;eq_refl;eq_refl)
|(apply G_pv;eq_refl;first|exact trivial|omega)
|(apply G_ldW;eq_refl;(repeat first|exact In.here|apply In.there|apply In.skip);eq_refl)
|(apply G_alloc;eq_refl;intro _)
|(apply G_box;eq_refl;eq_refl;intro _)
|(apply G_stW;(first|exact wr_p|kernel_rfl);eq_refl;eq_refl;eq_refl;eq_refl;(repeat first|exact Upd.here|apply Upd.there|apply Upd.skip);eq_refl))
  apply G_call; eq_refl; eq_refl; (apply hV1; (repeat first | exact In.here | apply In.there | apply In.skip); (repeat first | exact In.here | apply In.there | apply In.skip)); rintro _ _ ⟨A3, q3, rfl, rfl⟩
  repeat' (first
|(apply G_call;eq_refl;eq_refl;(apply hV2;(repeat first|exact In.here|apply In.there|apply In.skip));rintro _ _ ⟨A5, q5, rfl, rfl⟩)
|(apply GC_seqK;intro K hK)
|(apply hK;clear hK K)
|(apply GC_region)
|(apply GL_nil)
|(apply thenG_normal)
|(apply GL_on;eq_refl;eq_refl)
|(apply G_pv;eq_refl;first|exact trivial|omega)
|(apply G_ldW;eq_refl;(repeat first|exact In.here|apply In.there|apply In.skip);eq_refl))
  apply G_call; eq_refl; eq_refl; (apply hS1; (repeat first | exact In.here | apply In.there | apply In.skip)); rintro _ _ ⟨A6, q6, rfl, rfl⟩
  repeat' (first
|(apply G_call;eq_refl;eq_refl;(apply hS2;(repeat first|exact In.here|apply In.there|apply In.skip));rintro _ _ ⟨A7, q7, rfl, rfl⟩)
|(apply G_call;eq_refl;eq_refl;(intro w' M;apply (sameV (A := A3) (k := q3) (B := A5) (k' := q5) (m := m1) _ _ M);(repeat first|exact In.here|apply In.there|apply In.skip);(repeat first|exact In.here|apply In.there|apply In.skip));rintro _ _ ⟨rfl, rfl⟩)
|(apply G_call;eq_refl;eq_refl;(intro w' M;apply (sameV (A := A6) (k := q6) (B := A7) (k' := q7) (m := m2) _ _ M);(repeat first|exact In.here|apply In.there|apply In.skip);(repeat first|exact In.here|apply In.there|apply In.skip));rintro _ _ ⟨rfl, rfl⟩)
|(apply G_callM2;exact wr_p;eq_refl;(exact hsp A3 q3 m1 (-7));(repeat first|exact Rems.nil|(apply Rems.cons;(focus ((repeat first|exact Rem.here|apply Rem.there|apply Rem.skip);done))));rintro _ _ rfl)
|(apply G_callM2;exact wr_p;eq_refl;(exact hsp A6 q6 m2 (-8));(repeat first|exact Rems.nil|(apply Rems.cons;(focus ((repeat first|exact Rem.here|apply Rem.there|apply Rem.skip);done))));rintro _ _ rfl)
|(apply G_call;eq_refl;eq_refl;(apply hKp;(repeat first|exact In.here|apply In.there|apply In.skip);(repeat first|exact In.here|apply In.there|apply In.skip));rintro _ _ ⟨rfl, rfl⟩)
|(apply G_call;eq_refl;eq_refl;(apply hW;(repeat first|exact In.here|apply In.there|apply In.skip));rintro _ _ ⟨rfl, rfl⟩)
|(apply GC_seqK;intro K hK)
|(apply hK;clear hK K)
|(apply GC_region)
|(apply GL_nil)
|(apply thenG_normal)
|(apply GC_ret)
|(apply GC_skip)
|(apply GC_if_false;eq_refl)
|(apply retG1;eq_refl)
|(apply GL_on;eq_refl;eq_refl)
|(apply G_pv;eq_refl;first|exact trivial|omega)
|(apply G_ldW;eq_refl;(repeat first|exact In.here|apply In.there|apply In.skip);eq_refl)
|(apply G_cmpF;eq_refl;eq_refl;omega))
  exact ⟨[], (by repeat first | exact Wk.nil | exact Wk.refl | (apply Wk.cons; (focus ((repeat first | exact Rem.here | apply Rem.there | apply Rem.skip); done))) | apply Wk.nilv | apply Wk.last | apply Wk.drop), rfl, rfl⟩
end SC
end Go.Proofs.YtclihihdgodloaaDoor
end
section
/- The tables, as the rows' condition tells them. -/
set_option linter.unusedVariables false
set_option linter.unusedSimpArgs false
namespace Go.Proofs.YtclihihdgodloaaDoor
namespace SC
open Go.Proofs Go.ChangeShapes Go.WideShapes Go.ChangeAt Go.WideMaps Go.WideElems Go.RowKit
theorem gCon : Tryd.prog.globalNamed "trestle/tern.contrary" = some 0 := by kernel_rfl
theorem gBoth : Tryd.prog.globalNamed "trestle/tern.both" = some 1 := by kernel_rfl
theorem tCon : (Tryd.prog.globals[0]?).map (·.type) = some 101 := by kernel_rfl
theorem tBoth : (Tryd.prog.globals[1]?).map (·.type) = some 104 := by kernel_rfl
set_option maxRecDepth 100000
section
variable {H : Type} {enc : TypeId × Value → H} {W : World} {base : Nat} {spare : Nat → Bool} {held : Bool}
theorem arr3 {fuel : Nat} {cs : List Value} {x : DataW H × List MemPlace} {a b c : Int} (h : DataW.trod enc Tryd.prog W base spare held fuel 101 cs = some x) (hx : x.1 = .agg [.lit (.int .i64 a), .lit (.int .i64 b), .lit (.int .i64 c)]) : cs = [nu a, nu b, nu c] := by
  obtain ⟨xs, m1, rfl, hx1, hlen, hn3, hel⟩ := DataW.trod_array Tryd.underlying101 h
  have c3 : Tryd.prog.cellsOf 3 = 1 := by kernel_rfl
  have c9 : Tryd.prog.cellsOf 101 = 3 := by kernel_rfl
  rw [c9] at hlen
  have h0 := hel 0 (by decide)
  have h1 := hel 1 (by decide)
  have h2 := hel 2 (by decide)
  rw [c3] at h0 h1 h2
  match cs, hlen, xs, hn3 with
  | [c0, c1, c2], _, [x0, x1, x2], _ =>
    obtain ⟨n0, e0, f0, _⟩ := DataW.trod_int Tryd.underlying3 (show DataW.trod enc Tryd.prog W base spare held m1 3 [c0] = some x0 from h0)
    obtain ⟨n1, e1, f1, _⟩ := DataW.trod_int Tryd.underlying3 (show DataW.trod enc Tryd.prog W base spare held m1 3 [c1] = some x1 from h1)
    obtain ⟨n2, e2, f2, _⟩ := DataW.trod_int Tryd.underlying3 (show DataW.trod enc Tryd.prog W base spare held m1 3 [c2] = some x2 from h2)
    rw [hx1, f0, f1, f2] at hx
    simp only [List.map_cons, List.map_nil, DataW.agg.injEq, List.cons.injEq, DataW.lit.injEq, Lit.int.injEq, true_and, and_true] at hx
    obtain ⟨rfl, rfl, rfl⟩ := hx
    rw [(List.cons.inj e0).1, (List.cons.inj e1).1, (List.cons.inj e2).1]
theorem arr33 {fuel : Nat} {cs : List Value} {x : DataW H × List MemPlace} {a b c a' b' c' a'' b'' c'' : Int} (h : DataW.trod enc Tryd.prog W base spare held fuel 104 cs = some x)
    (hx : x.1 = .agg [.agg [.lit (.int .i64 a), .lit (.int .i64 b), .lit (.int .i64 c)], .agg [.lit (.int .i64 a'), .lit (.int .i64 b'), .lit (.int .i64 c')], .agg [.lit (.int .i64 a''), .lit (.int .i64 b''), .lit (.int .i64 c'')]]) : cs = [nu a, nu b, nu c, nu a', nu b', nu c', nu a'', nu b'', nu c''] := by
  obtain ⟨xs, m1, rfl, hx1, hlen, hn3, hel⟩ := DataW.trod_array Tryd.underlying104 h
  have c9 : Tryd.prog.cellsOf 101 = 3 := by kernel_rfl
  have c27 : Tryd.prog.cellsOf 104 = 9 := by kernel_rfl
  rw [c27] at hlen
  have h0 := hel 0 (by decide)
  have h1 := hel 1 (by decide)
  have h2 := hel 2 (by decide)
  rw [c9] at h0 h1 h2
  match cs, hlen, xs, hn3 with
  | [c0, c1, c2, c3, c4, c5, c6, c7, c8], _, [x0, x1, x2], _ =>
    rw [hx1] at hx
    simp only [List.map_cons, List.map_nil, DataW.agg.injEq, List.cons.injEq, and_true] at hx
    have e0 := arr3 (show DataW.trod enc Tryd.prog W base spare held m1 101 [c0, c1, c2] = some x0 from h0) hx.1
    have e1 := arr3 (show DataW.trod enc Tryd.prog W base spare held m1 101 [c3, c4, c5] = some x1 from h1) hx.2.1
    have e2 := arr3 (show DataW.trod enc Tryd.prog W base spare held m1 101 [c6, c7, c8] = some x2 from h2) hx.2.2
    simp only [List.cons.injEq, and_true] at e0 e1 e2
    obtain ⟨rfl, rfl, rfl⟩ := e0
    obtain ⟨rfl, rfl, rfl⟩ := e1
    obtain ⟨rfl, rfl, rfl⟩ := e2
    rfl
end
abbrev laidT : List (String × DataW Unit) := [("trestle/tern.both", Rows.laid_trestle_tern_both), ("trestle/tern.contrary", Rows.laid_trestle_tern_contrary)]
/-- The door's own heap meets the condition. -/
theorem door_met (os : Os) (args : Array Value) : laidMetH Tryd.prog laidT ((World.doorLaid Tryd.prog 400 os).forCall (fun _ _ => 0) ⟨#[], args, []⟩).memory :=
  laidMetH_of_parts3 (fuel := 8) (laidMet_of_run' 8 (by kernel_rfl) (by kernel_rfl)) (by kernel_rfl) (by kernel_rfl)
theorem of_laid {W : World} (h : laidMetH Tryd.prog laidT W) : TabG W := by
  rw [MakeChecks.laidMetH_plain _ _ _ (by kernel_rfl)] at h
  obtain ⟨ps, ⟨g0, t0, cs0, f0, p0, q0, hg0, ht0, hv0, hd0, ⟨g1, t1, cs1, f1, p1, q1, hg1, ht1, hv1, hd1, _, _⟩, _⟩, _, _⟩ := h
  obtain rfl := Option.some.inj (gBoth.symm.trans hg0)
  obtain rfl := Option.some.inj (gCon.symm.trans hg1)
  obtain rfl := Option.some.inj (tBoth.symm.trans ht0)
  obtain rfl := Option.some.inj (tCon.symm.trans ht1)
  have e0 := arr33 hd0 rfl
  have e1 := arr3 hd1 rfl
  obtain ⟨l0⟩ := cs0
  obtain ⟨l1⟩ := cs1
  simp only at e0 e1
  subst e0 e1
  refine ⟨fun i hi => ?_, fun i j hi hj => ?_⟩
  · rw [World.var?_cell hg1 hv1 i]
    have h3 : i = 0 ∨ i = 1 ∨ i = 2 := by omega
    rcases h3 with rfl | rfl | rfl <;> rfl
  · rw [World.var?_cell hg0 hv0 (i * 3 + j)]
    have h3 : i = 0 ∨ i = 1 ∨ i = 2 := by omega
    have h4 : j = 0 ∨ j = 1 ∨ j = 2 := by omega
    rcases h3 with rfl | rfl | rfl <;> rcases h4 with rfl | rfl | rfl <;> rfl
end SC
end Go.Proofs.YtclihihdgodloaaDoor
end
section
/- Lists of numbers and numbers that come in. -/
set_option linter.unusedVariables false
set_option linter.unusedSimpArgs false
namespace Go.Proofs.YtclihihdgodloaaDoor
namespace SC
open Go.Proofs
set_option maxRecDepth 100000
section
variable {H : Type} {enc : TypeId × Value → H} {W : World} {base : Nat} {spare : Nat → Bool} {held : Bool}
end
end SC
end Go.Proofs.YtclihihdgodloaaDoor
end

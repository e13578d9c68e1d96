/- Texts of this seat, one behind the other: S10 S11 S12 S13 L10 S14 S15 S16 S17 S18 S19 S20 S21 S22 S23 S24 S27 S28 S29 S30 S31 S32 S33 S36 S34 S35 M1 M2 M3 S37 S38 S39 S40 O0 O9 O1 O2 O3 O4 O5 O6 O7 O8 O10 O11 O12 O13 O15 N16 O17. -/
import Derived.Test.YtbmngkdnebklpaaGreatP4
import Derived.ChangeArms
import Derived.Shelf.Spec.SlicesGrow
section
/- sim: moment. -/
set_option linter.unusedVariables false
set_option linter.unusedSimpArgs false
namespace Go.Proofs.YtbmngkdnebklpaaGreat
namespace SC
open Go.Proofs
attribute [local irreducible] WC WL WX WS WO OX Does DoesU Enters CV Pure thenQ blockQ retQ Wants retQC GC GL GS GX RdB thenG blockG retG Rd At gt CVN CVM
set_option maxRecDepth 100000
/-- The closure that tells the fair spots. -/
def fairC (b : Nat) (x0 x1 x2 : Value) (A : Option Addr) (k : Nat) (F : List (Int × Int)) : Mm := [.box b 77 [x0, x1, x2, .slice A F.length k], .vec spotc 2 130 A k F]
theorem fair_cv {w : World} {b5 b7 k c kF kL : Nat} {x0 x1 x2 : Value} {A AF L : Option Addr} {v : List Bool} {F : List (Int × Int)} {ls : List Int} {at_ : Int} (M : Mem w (fairC b7 x0 x1 x2 AF kF F)) (hB : RdB [.old w (owns (fairC b7 x0 x1 x2 AF kF F))] b5 30 [.slice A k c]) (hA : Rd [.old w (owns (fairC b7 x0 x1 x2 AF kF F))] booc 1 A v) (hL : Rd [.old w (owns (fairC b7 x0 x1 x2 AF kF F))] icell 1 L ls)
    (hk : k = v.length) (hin : ∀ l ∈ ls, hasL v l) (hn : F.length + ls.length ≤ 100000) : CVM Tryz.prog 78 ([nu at_, .slice L ls.length kL] ++ (#[pt b5, pt b7] : Array Value).toList) w (fairC b7 x0 x1 x2 AF kF F) fun r N => r = .tuple #[] ∧ ∃ A' k', N = fairC b7 x0 x1 x2 A' k' (F ++ selF at_ v ls ls.length) := by
  obtain ⟨S, hS⟩ : ∃ S, S = owns (fairC b7 x0 x1 x2 AF kF F) := ⟨_, rfl⟩
  rw [← hS] at hB hA hL
  have his : ∀ Γ, In Γ (.old w S) → ∀ l, hasL v l → ∀ w', Mem w' Γ → CVN Tryz.prog 77 [.slice A k c, nu l] w' _ := fun Γ hi l hl w' M => is_cv (hA.at (hi.one M)) hk hl
  refine CVM.enter 27 [] Tryz.func78 rfl rfl rfl (by decide) rfl M ?_
  rw [← hS]
  clear hS M
  unfold fairC
  repeat' (first
|(apply GC_seqK;intro K hK)
|(apply hK;clear hK K)
|(apply GC_block)
|(apply GC_region)
|(apply GL_nil)
|(apply thenG_normal)
|(apply GL_on;eq_refl;eq_refl)
|(apply G_pv;eq_refl;first|exact trivial|omega)
|(apply G_len;eq_refl))
  refine GC_loopK [0, 2, 3, 8, 9] (fun t : Nat × List (Int × Int) × Option Addr × Nat => [(10, nu t.1)]) (fun t => [.box b7 77 [x0, x1, x2, .slice t.2.2.1 t.2.1.length t.2.2.2], .vec spotc 2 130 t.2.2.1 t.2.2.2 t.2.1, .old w S])
    (fun t => t.1 ≤ ls.length ∧ t.2.1 = F ++ selF at_ v ls t.1) (fun t => ls.length - t.1) (0, F, AF, kF) (by repeat first | exact Pick.nil | (apply Pick.cons; eq_refl)) (by repeat first | exact trivial | refine ⟨rfl, ?_⟩) (by repeat first | exact Wk.nil | exact Wk.refl | (apply Wk.cons; (focus ((repeat first | exact Rem.here | apply Rem.there | apply Rem.skip); done))) | apply Wk.nilv | apply Wk.last | apply Wk.drop) ⟨Nat.zero_le _, by simp [selF]⟩ ?_
  rintro ⟨j, F2, AF2, kF2⟩ ⟨hj, hF2⟩
  dsimp only at hj hF2 ⊢
  have hFl2 : F2.length ≤ F.length + j := by rw [hF2, List.length_append]; have := selF_len at_ v ls j; omega
  rcases Nat.lt_or_ge j ls.length with hlt2 | hge2
  · have hl := hin _ (gt_mem (l := ls) (i := (j : Int)) (by omega) (by omega))
    repeat' (first
|(apply G_call;eq_refl;eq_refl;(apply his;(repeat first|exact In.here|apply In.there|apply In.skip);assumption);rintro _ _ ⟨rfl, rfl⟩)
|(apply GC_seqK;intro K hK)
|(apply hK;clear hK K)
|(apply GC_block)
|(apply GC_region)
|(apply GL_nil)
|(apply thenG_normal)
|(apply blockG_normal)
|(apply GC_skip)
|(apply GC_if_true;eq_refl)
|(apply GC_if;eq_refl;all_goals intro _)
|(apply GL_on;eq_refl;eq_refl)
|(apply G_pv;eq_refl;first|exact trivial|omega)
|(apply G_field;eq_refl)
|(apply G_ld;eq_refl;(repeat first|exact In.here|apply In.there|apply In.skip);eq_refl)
|(apply G_ldR;eq_refl;(apply RdB.oldR;(repeat first|exact In.here|apply In.there|apply In.skip);assumption);eq_refl)
|(apply G_rd;eq_refl;(first|(apply Rd.own;(repeat first|exact In.here|apply In.there|apply In.skip);infer_instance)|(apply Rd.old;(repeat first|exact In.here|apply In.there|apply In.skip);assumption)|(apply Rd.oldR;(repeat first|exact In.here|apply In.there|apply In.skip);assumption)|exact Rd.nil|assumption);(case ih => infer_instance);omega;omega;eq_refl)
|(apply G_cmpT;eq_refl;eq_refl;omega)
|(apply G_ix;eq_refl;eq_refl;(first|(apply Rd.own;(repeat first|exact In.here|apply In.there|apply In.skip);infer_instance)|(apply Rd.old;(repeat first|exact In.here|apply In.there|apply In.skip);assumption)|(apply Rd.oldR;(repeat first|exact In.here|apply In.there|apply In.skip);assumption)|exact Rd.nil|assumption);(first|eq_refl|omega);omega;omega)
|(apply G_st;(first|exact wr_p|kernel_rfl);eq_refl;eq_refl;eq_refl;eq_refl;(repeat first|exact Upd.here|apply Upd.there|apply Upd.skip);(first|decide|exact Nat.le_of_ble_eq_true rfl))
|(apply G_app;(first|exact wr_p|kernel_rfl);eq_refl;eq_refl;(intro A c;(repeat first|exact Upd.here|apply Upd.there|apply Upd.skip));infer_instance;(repeat first|exact In.here|apply In.there|apply In.skip);(repeat first|exact Dec.nil|apply Dec.pr|apply Dec.tr|(apply Dec.c1;eq_refl)|(apply Dec.c2;eq_refl)|(apply Dec.c3;eq_refl));eq_refl;eq_refl;eq_refl;((try simp only [List.length_append, List.length_cons, List.length_nil]);omega);decide;intro _ _)
|(apply GX_pure;apply build130_0_1 <;> eq_refl)
|(apply G_new (fun b => .slice (some ⟨b, 0, none⟩) 1 1);eq_refl;(intro _;apply buildS75_1 <;> eq_refl);intro _))
    · exact ⟨(j + 1, _, _, _), (by repeat first | exact trivial | refine ⟨rfl, ?_⟩), (by repeat first | exact Wk.nil | exact Wk.refl | (apply Wk.cons; (focus ((repeat first | exact Rem.here | apply Rem.there | apply Rem.skip); done))) | apply Wk.nilv | apply Wk.last | apply Wk.drop), ⟨hlt2, by rw [selF_t (by assumption), hF2, List.append_assoc]⟩, by simp only; omega⟩
    · exact ⟨(j + 1, _, _, _), (by repeat first | exact trivial | refine ⟨rfl, ?_⟩), (by repeat first | exact Wk.nil | exact Wk.refl | (apply Wk.cons; (focus ((repeat first | exact Rem.here | apply Rem.there | apply Rem.skip); done))) | apply Wk.nilv | apply Wk.last | apply Wk.drop), ⟨hlt2, by rw [selF_f (by assumption), hF2]⟩, by simp only; omega⟩
  · obtain rfl : j = ls.length := by omega
    repeat' (first
|(apply GC_seqK;intro K hK)
|(apply hK;clear hK K)
|(apply GC_region)
|(apply GL_nil)
|(apply thenG_normal)
|(apply thenG_exit)
|(apply blockG_hit)
|(apply GC_exit)
|(apply GC_if_false;eq_refl)
|(apply retG0n)
|(apply GL_on;eq_refl;eq_refl)
|(apply G_cmpF;eq_refl;eq_refl;omega))
    subst hF2
    exact ⟨_, (by repeat first | exact Wk.nil | exact Wk.refl | (apply Wk.cons; (focus ((repeat first | exact Rem.here | apply Rem.there | apply Rem.skip); done))) | apply Wk.nilv | apply Wk.last | apply Wk.drop), rfl, AF2, kF2, rfl⟩
theorem clone144_cv {w : World} {A : Option Addr} {k : Nat} {l : List Bool} (hA : RowA w booc 1 A l) (hn : l.length ≤ 140737488355000) : CVN Tryz.prog 75 [.slice A l.length k] w fun v N => ∃ A' k', v = .slice A' l.length k' ∧ N = [.vec booc 1 4 A' k' l] := by
  refine CVN.enter 8 [2] Tryz.func75 rfl rfl rfl (by decide) rfl ?_
  cases A with
  | none =>
    obtain rfl : l = [] := List.length_eq_zero_iff.1 hA.nil_of
    repeat' (first
|(apply GC_seqK;intro K hK)
|(apply hK;clear hK K)
|(apply GC_region)
|(apply GL_nil)
|(apply thenG_normal)
|(apply thenG_ret)
|(apply GC_ret)
|(apply GC_if_true;eq_refl)
|(apply retG1;eq_refl)
|(apply GL_on;eq_refl;eq_refl)
|(apply G_pv;eq_refl;first|exact trivial|omega)
|(apply G_eqL;eq_refl;eq_refl))
    exact ⟨[.vec booc 1 4 none 0 []], (by repeat first | exact Wk.nil | exact Wk.refl | (apply Wk.cons; (focus ((repeat first | exact Rem.here | apply Rem.there | apply Rem.skip); done))) | apply Wk.nilv | apply Wk.last | apply Wk.drop), none, 0, rfl, rfl⟩
  | some p =>
    have hk : some p = none → k = 0 := fun h => by cases h
    repeat' (first
|(apply GC_seqK;intro K hK)
|(apply hK;clear hK K)
|(apply GC_region)
|(apply GL_nil)
|(apply thenG_normal)
|(apply GC_ret)
|(apply GC_skip)
|(apply GC_if_false;eq_refl)
|(apply retG1;eq_refl)
|(apply GL_on;eq_refl;eq_refl)
|(apply G_pv;eq_refl;first|exact trivial|omega)
|(apply G_eqL;eq_refl;eq_refl)
|(apply G_appBR;(first|exact wr_p|kernel_rfl);eq_refl;eq_refl;(first|(apply Rd.own;(repeat first|exact In.here|apply In.there|apply In.skip);infer_instance)|(apply Rd.old;(repeat first|exact In.here|apply In.there|apply In.skip);assumption)|(apply Rd.oldR;(repeat first|exact In.here|apply In.there|apply In.skip);assumption)|exact Rd.nil|assumption);infer_instance;(repeat first|exact Upd.here|apply Upd.there|apply Upd.skip);(repeat first|exact Dec.nil|apply Dec.pr|apply Dec.tr|(apply Dec.c1;eq_refl)|(apply Dec.c2;eq_refl)|(apply Dec.c3;eq_refl));(intro A c;(repeat first|exact Upd.here|apply Upd.there|apply Upd.skip));(intro _;trivial);(first|(apply Rd.own;(repeat first|exact In.here|apply In.there|apply In.skip);infer_instance)|(apply Rd.old;(repeat first|exact In.here|apply In.there|apply In.skip);assumption)|(apply Rd.oldR;(repeat first|exact In.here|apply In.there|apply In.skip);assumption)|exact Rd.nil|assumption);assumption;eq_refl;eq_refl;decide;eq_refl;eq_refl;(try simp only [List.length_nil]);omega;decide;intro _ _)
|(apply G_new (fun b => .slice (some ⟨b, 0, none⟩) 0 0);eq_refl;(intro _;apply buildS30_0);intro _))
    exact ⟨[_], (by repeat first | exact Wk.nil | exact Wk.refl | (apply Wk.cons; (focus ((repeat first | exact Rem.here | apply Rem.there | apply Rem.skip); done))) | apply Wk.nilv | apply Wk.last | apply Wk.drop), _, _, rfl, rfl⟩
theorem moment_cv {w : World} {c : Circ} {h js : Hd} {p : Nat} {B S A : Option Addr} {k k1 k2 : Nat} {s v : List Bool} (R : Right c) (hP : Blk w p 126 (rcells c h B k1)) (H : CirAt w c h js) (hf : c.Fits) (hS : RowA w booc 1 S s) (hn : s.length ≤ 16384) (hA : RowA w booc 1 A v) (hv : v.length = (c.max + 1).toNat) :
    CVN Tryz.prog 50 [pt p, .slice S s.length k, .slice A v.length k2] w (MomR (momM c s v)) := by
  have m1 := R.m1
  have n1 := R.nBad
  have n2 := R.nFair
  have n3 := R.nJust
  have n5 := R.sumJ hf
  have hBad := H.bads
  have hFair := H.fairness
  have hJ := H.jrow
  have hjl := jps_len c js
  have hall : ∀ Γ, In Γ (.old w none_) → ∀ w', Mem w' Γ → CVN Tryz.prog 76 [pt p, .slice A v.length k2] w' _ := fun Γ hi w' M => holds_cv (hP.chg (hi.old M) id) (H.chg (hi.old M)) (hA.chg (hi.old M)) R.nCon fun l hl => (R.con hl).has m1 hv
  have hcl : ∀ Γ, In Γ (.old w none_) → ∀ w', Mem w' Γ → CVN Tryz.prog 75 [.slice S s.length k] w' _ := fun Γ hi w' M => clone144_cv (hS.chg (hi.old M)) (by omega)
  have hlit : ∀ Γ, In Γ (.old w none_) → ∀ l, inR c l → ∀ w', Mem w' Γ → CVN Tryz.prog 77 [.slice A v.length k2, nu l] w' _ := fun Γ hi l hl w' M => is_cv (hA.chg (hi.old M)) rfl (hl.has m1 hv)
  have hfr : ∀ {Γ Γ' : Mm} {b5 b7 kF kL : Nat} {x0 x1 x2 : Value} {AF L : Option Addr} {F : List (Int × Int)} {ls : List Int} {at_ : Int}, Rems Γ (fairC b7 x0 x1 x2 AF kF F) Γ' → In Γ' (.box b5 30 [.slice A v.length k2]) → In Γ' (.old w none_) → RowA w icell 1 L ls → (∀ l ∈ ls, inR c l) → F.length + ls.length ≤ 100000 → ∀ w', Mem w' Γ →
      CVM Tryz.prog 78 ([nu at_, .slice L ls.length kL] ++ (#[pt b5, pt b7] : Array Value).toList) w' (fairC b7 x0 x1 x2 AF kF F) _ := fun hC hb ho hL hin hl w' M => fair_cv (M.takes hC).left ((RdB.own hb).frame (M.takes hC)) ((Rd.old ho hA).frame (M.takes hC)) ((Rd.old ho hL).frame (M.takes hC)) rfl (fun l hl => (hin l hl).has m1 hv) hl
  refine CVN.enterC (t := 77) 65 6 [] Tryz.func50 rfl rfl rfl (.inl rfl) rfl ?_
  repeat' (first
|(apply G_call;eq_refl;eq_refl;(apply hcl;(repeat first|exact In.here|apply In.there|apply In.skip));rintro _ _ ⟨A0, k0, rfl, rfl⟩)
|(apply G_call;eq_refl;eq_refl;(apply hall;(repeat first|exact In.here|apply In.there|apply In.skip));rintro _ _ ⟨rfl, rfl⟩)
|(apply GC_seqK;intro K hK)
|(apply hK;clear hK K)
|(apply GC_block)
|(apply GC_region)
|(apply GL_nil)
|(apply thenG_normal)
|(apply GL_on;eq_refl;eq_refl)
|(refine GC_draws (id := 1) [.q 0, .q 2, .q 3, .f 6, .c 1, .c 4, .q 5, .land, .c 7] mixed (by kernel_rfl) (by kernel_rfl) ?_)
|(apply GS_nil)
|(apply GS_qon;eq_refl;eq_refl;eq_refl;eq_refl)
|(apply GS_con;eq_refl;eq_refl;eq_refl;eq_refl)
|(apply GS_fl;eq_refl;infer_instance;eq_refl;eq_refl;eq_refl)
|(apply GS_land;simp only [landG];intros)
|(apply G_pv;eq_refl;first|exact trivial|omega)
|(apply G_field;eq_refl)
|(apply G_ld;eq_refl;(repeat first|exact In.here|apply In.there|apply In.skip);eq_refl)
|(apply G_ldO;eq_refl;(repeat first|exact In.here|apply In.there|apply In.skip);assumption;eq_refl)
|(apply G_len;eq_refl)
|(apply G_alloc;eq_refl;intro _)
|(apply G_box;eq_refl;eq_refl;intro _)
|(apply G_stW;(first|exact wr_p|kernel_rfl);eq_refl;eq_refl;eq_refl;eq_refl;(repeat first|exact Upd.here|apply Upd.there|apply Upd.skip);eq_refl)
|(apply GX_pure;apply build77_0_1 <;> eq_refl))
  rename_i b5 b6 b7
  refine GC_loopK [0, 5, 6, 7, 23, 24] (fun t : Nat × List Int × Option Addr × Nat => [(25, nu t.1)]) (fun t => [.box b7 77 [.slice A0 s.length k0, .bool (c.constraints.all (lv v)), .slice t.2.2.1 t.2.1.length t.2.2.2, .slice none 0 0], .vec icell 1 3 t.2.2.1 t.2.2.2 t.2.1, .vec booc 1 4 A0 k0 s, .box b6 77 [.slice none 0 0, .bool false, .slice none 0 0, .slice none 0 0], .box b5 30 [.slice A v.length k2], .old w none_])
    (fun t => t.1 ≤ c.bads.length ∧ t.2.1 = selI v c.bads t.1) (fun t => c.bads.length - t.1) (0, [], none, 0) (by repeat first | exact Pick.nil | (apply Pick.cons; eq_refl)) (by repeat first | exact trivial | refine ⟨rfl, ?_⟩) (by repeat first | exact Wk.nil | exact Wk.refl | (apply Wk.cons; (focus ((repeat first | exact Rem.here | apply Rem.there | apply Rem.skip); done))) | apply Wk.nilv | apply Wk.last | apply Wk.drop) ⟨Nat.zero_le _, rfl⟩ ?_
  rintro ⟨i, B, AB, kB⟩ ⟨hi, hB⟩
  dsimp only at hi hB ⊢
  have hBl : B.length ≤ i := by rw [hB]; exact selI_len ..
  rcases Nat.lt_or_ge i c.bads.length with hlt | hge
  · have hl := R.bad (gt_mem (l := c.bads) (i := (i : Int)) (by omega) (by omega))
    repeat' (first
|(apply G_call;eq_refl;eq_refl;(apply hlit;(repeat first|exact In.here|apply In.there|apply In.skip);assumption);rintro _ _ ⟨rfl, rfl⟩)
|(apply GC_seqK;intro K hK)
|(apply hK;clear hK K)
|(apply GC_block)
|(apply GC_region)
|(apply GL_nil)
|(apply thenG_normal)
|(apply blockG_normal)
|(apply GC_skip)
|(apply GC_if_true;eq_refl)
|(apply GC_if;eq_refl;all_goals intro _)
|(apply GL_on;eq_refl;eq_refl)
|(apply G_pv;eq_refl;first|exact trivial|omega)
|(apply G_field;eq_refl)
|(apply G_ld;eq_refl;(repeat first|exact In.here|apply In.there|apply In.skip);eq_refl)
|(apply G_rd;eq_refl;(first|(apply Rd.own;(repeat first|exact In.here|apply In.there|apply In.skip);infer_instance)|(apply Rd.old;(repeat first|exact In.here|apply In.there|apply In.skip);assumption)|(apply Rd.oldR;(repeat first|exact In.here|apply In.there|apply In.skip);assumption)|exact Rd.nil|assumption);(case ih => infer_instance);omega;omega;eq_refl)
|(apply G_cmpT;eq_refl;eq_refl;omega)
|(apply G_ix;eq_refl;eq_refl;(first|(apply Rd.own;(repeat first|exact In.here|apply In.there|apply In.skip);infer_instance)|(apply Rd.old;(repeat first|exact In.here|apply In.there|apply In.skip);assumption)|(apply Rd.oldR;(repeat first|exact In.here|apply In.there|apply In.skip);assumption)|exact Rd.nil|assumption);(first|eq_refl|omega);omega;omega)
|(apply G_st;(first|exact wr_p|kernel_rfl);eq_refl;eq_refl;eq_refl;eq_refl;(repeat first|exact Upd.here|apply Upd.there|apply Upd.skip);(first|decide|exact Nat.le_of_ble_eq_true rfl))
|(apply G_app;(first|exact wr_p|kernel_rfl);eq_refl;eq_refl;(intro A c;(repeat first|exact Upd.here|apply Upd.there|apply Upd.skip));infer_instance;(repeat first|exact In.here|apply In.there|apply In.skip);(repeat first|exact Dec.nil|apply Dec.pr|apply Dec.tr|(apply Dec.c1;eq_refl)|(apply Dec.c2;eq_refl)|(apply Dec.c3;eq_refl));eq_refl;eq_refl;eq_refl;((try simp only [List.length_append, List.length_cons, List.length_nil]);omega);decide;intro _ _)
|(apply G_new (fun b => .slice (some ⟨b, 0, none⟩) 1 1);eq_refl;(intro _;apply buildS22_1 <;> eq_refl);intro _))
    · exact ⟨(i + 1, _, _, _), (by repeat first | exact trivial | refine ⟨rfl, ?_⟩), (by repeat first | exact Wk.nil | exact Wk.refl | (apply Wk.cons; (focus ((repeat first | exact Rem.here | apply Rem.there | apply Rem.skip); done))) | apply Wk.nilv | apply Wk.last | apply Wk.drop), ⟨hlt, by rw [selI_t (by assumption), hB]⟩, by simp only; omega⟩
    · exact ⟨(i + 1, _, _, _), (by repeat first | exact trivial | refine ⟨rfl, ?_⟩), (by repeat first | exact Wk.nil | exact Wk.refl | (apply Wk.cons; (focus ((repeat first | exact Rem.here | apply Rem.there | apply Rem.skip); done))) | apply Wk.nilv | apply Wk.last | apply Wk.drop), ⟨hlt, by rw [selI_f (by assumption), hB]⟩, by simp only; omega⟩
  · obtain rfl : i = c.bads.length := by omega
    repeat' (first
|(apply GC_seqK;intro K hK)
|(apply hK;clear hK K)
|(clear hK K;apply hK;clear hK K)
|(apply GC_block)
|(apply GC_region)
|(apply GL_nil)
|(apply thenG_normal)
|(apply thenG_exit)
|(apply blockG_hit)
|(apply GC_exit)
|(apply GC_if_false;eq_refl)
|(apply GL_on;eq_refl;eq_refl)
|(apply G_pv;eq_refl;first|exact trivial|omega)
|(apply G_field;eq_refl)
|(apply G_ldO;eq_refl;(repeat first|exact In.here|apply In.there|apply In.skip);assumption;eq_refl)
|(apply G_cmpF;eq_refl;eq_refl;omega)
|(apply G_len;eq_refl)
|(apply G_fun;eq_refl))
    refine GC_loopK [0, 5, 6, 7, 10, 45, 46] (fun t : Nat × List (Int × Int) × Option Addr × Nat => [(47, nu t.1)]) (fun t => [.box b7 77 [.slice A0 s.length k0, .bool (c.constraints.all (lv v)), .slice AB B.length kB, .slice t.2.2.1 t.2.1.length t.2.2.2], .vec spotc 2 130 t.2.2.1 t.2.2.2 t.2.1, .vec icell 1 3 AB kB B, .vec booc 1 4 A0 k0 s, .box b6 77 [.slice none 0 0, .bool false, .slice none 0 0, .slice none 0 0], .box b5 30 [.slice A v.length k2], .old w none_])
      (fun t => t.1 ≤ c.justice.length ∧ t.2.1 = fairJ v c.justice t.1) (fun t => c.justice.length - t.1) (0, [], none, 0) (by repeat first | exact Pick.nil | (apply Pick.cons; eq_refl)) (by repeat first | exact trivial | refine ⟨rfl, ?_⟩) (by repeat first | exact Wk.nil | exact Wk.refl | (apply Wk.cons; (focus ((repeat first | exact Rem.here | apply Rem.there | apply Rem.skip); done))) | apply Wk.nilv | apply Wk.last | apply Wk.drop) ⟨Nat.zero_le _, rfl⟩ ?_
    rintro ⟨i, F, AF, kF⟩ ⟨hi2, hF⟩
    dsimp only at hi2 hF ⊢
    have hFl := fairJ_len v c.justice i hi2
    rw [← hF] at hFl
    rcases Nat.lt_or_ge i c.justice.length with hlt | hge
    · have hje := H.jeach (js := js) hlt
      have ej := jps_gt c js hlt
      have el : (gt (jps c js) (i : Int)).2 = c.justice.getD i [] := by rw [ej]; simp [hlt]
      have hes := each_sum hlt
      have el2 : (gt (jps c js) (i : Int)).2.length = c.justice[i].length := by rw [ej]
      have hin : ∀ l ∈ (gt (jps c js) (i : Int)).2, inR c l := fun l hl => R.just (ls := c.justice[i]) (List.getElem_mem hlt) (by rw [ej] at hl; exact hl)
      have hsc := fairJ_succ v c.justice i
      rw [← el, ← hF] at hsc
      repeat' (first
|(apply G_callC (C := fairC b7 _ _ _ AF kF F);exact wr_p;eq_refl;infer_instance;eq_refl;(repeat first|exact Rems.nil|(apply Rems.cons;(focus ((repeat first|exact Rem.here|apply Rem.there|apply Rem.skip);done))));(apply hfr;(repeat first|exact Rems.nil|(apply Rems.cons;(focus ((repeat first|exact Rem.here|apply Rem.there|apply Rem.skip);done))));(repeat first|exact In.here|apply In.there|apply In.skip);(repeat first|exact In.here|apply In.there|apply In.skip);exact hje;exact hin;omega);rintro _ _ ⟨rfl, A9, k9, rfl⟩)
|(apply GC_seqK;intro K hK)
|(apply hK;clear hK K)
|(apply GC_block)
|(apply GC_region)
|(apply GL_nil)
|(apply thenG_normal)
|(apply blockG_normal)
|(apply GC_skip)
|(apply GC_if_true;eq_refl)
|(apply GL_on;eq_refl;eq_refl)
|(apply G_pv;eq_refl;first|exact trivial|omega)
|(apply G_rd;eq_refl;(first|(apply Rd.own;(repeat first|exact In.here|apply In.there|apply In.skip);infer_instance)|(apply Rd.old;(repeat first|exact In.here|apply In.there|apply In.skip);assumption)|(apply Rd.oldR;(repeat first|exact In.here|apply In.there|apply In.skip);assumption)|exact Rd.nil|assumption);(case ih => infer_instance);omega;omega;eq_refl)
|(apply G_cmpT;eq_refl;eq_refl;omega)
|(apply G_ix;eq_refl;eq_refl;(first|(apply Rd.own;(repeat first|exact In.here|apply In.there|apply In.skip);infer_instance)|(apply Rd.old;(repeat first|exact In.here|apply In.there|apply In.skip);assumption)|(apply Rd.oldR;(repeat first|exact In.here|apply In.there|apply In.skip);assumption)|exact Rd.nil|assumption);(first|eq_refl|omega);omega;omega))
      exact ⟨(i + 1, _, _, _), (by repeat first | exact trivial | refine ⟨rfl, ?_⟩), (by repeat first | exact Wk.nil | exact Wk.refl | (apply Wk.cons; (focus ((repeat first | exact Rem.here | apply Rem.there | apply Rem.skip); done))) | apply Wk.nilv | apply Wk.last | apply Wk.drop), ⟨hlt, by rw [hsc]⟩, by simp only; omega⟩
    · obtain rfl : i = c.justice.length := by omega
      rw [List.take_length] at hFl
      repeat' (first
|(apply G_callC (C := fairC b7 _ _ _ AF kF F);exact wr_p;eq_refl;infer_instance;eq_refl;(repeat first|exact Rems.nil|(apply Rems.cons;(focus ((repeat first|exact Rem.here|apply Rem.there|apply Rem.skip);done))));(apply hfr;(repeat first|exact Rems.nil|(apply Rems.cons;(focus ((repeat first|exact Rem.here|apply Rem.there|apply Rem.skip);done))));(repeat first|exact In.here|apply In.there|apply In.skip);(repeat first|exact In.here|apply In.there|apply In.skip);exact hFair;exact fun l hl => R.fair hl;omega);rintro _ _ ⟨rfl, A9, k9, rfl⟩)
|(apply GC_seqK;intro K hK)
|(apply hK;clear hK K)
|(clear hK K;apply hK;clear hK K)
|(apply GC_region)
|(apply GL_nil)
|(apply thenG_normal)
|(apply thenG_exit)
|(apply blockG_hit)
|(apply GC_ret)
|(apply GC_exit)
|(apply GC_if_false;eq_refl)
|(apply retGC0;eq_refl;(repeat first|exact In.here|apply In.there|apply In.skip);eq_refl)
|(apply GL_on;eq_refl;eq_refl)
|(apply G_pv;eq_refl;first|exact trivial|omega)
|(apply G_field;eq_refl)
|(apply G_ldW;eq_refl;(repeat first|exact In.here|apply In.there|apply In.skip);eq_refl)
|(apply G_ldO;eq_refl;(repeat first|exact In.here|apply In.there|apply In.skip);assumption;eq_refl)
|(apply G_cmpF;eq_refl;eq_refl;omega)
|(apply G_stW;(first|exact wr_p|kernel_rfl);eq_refl;eq_refl;eq_refl;eq_refl;(repeat first|exact Upd.here|apply Upd.there|apply Upd.skip);eq_refl))
      subst hF hB
      exact ⟨_, (by repeat first | exact Wk.nil | exact Wk.refl | (apply Wk.cons; (focus ((repeat first | exact Rem.here | apply Rem.there | apply Rem.skip); done))) | apply Wk.nilv | apply Wk.last | apply Wk.drop), ((A0, k0), (AB, kB), (A9, k9)), rfl, rfl⟩
end SC
end Go.Proofs.YtbmngkdnebklpaaGreat
end
section
/- Traces and runs. trestleref07: Fits, Run0, Run; sim: Run. -/
set_option linter.unusedVariables false
set_option linter.unusedSimpArgs false
namespace Go.Proofs.YtbmngkdnebklpaaGreat
namespace SC
open Go.Proofs
abbrev Hdl := Option Addr × Nat
/-- A trace, each row with its handle. -/
structure Trc where
  init : List Bool
  rows : List (Hdl × List Bool)
  loop : Int
def tcs (t : Trc) (a b : Hdl) : List Value := [.slice a.1 t.init.length a.2, .slice b.1 t.rows.length b.2, nu t.loop]
structure TrcIn (w : World) (t : Trc) (a b : Hdl) : Prop where
  init : RowA w booc 1 a.1 t.init
  rows : RowA w encS 1 b.1 t.rows
  each : ∀ p ∈ t.rows, RowA w booc 1 p.1.1 p.2
  nila : a.1 = none → a.2 = 0
  nilb : b.1 = none → b.2 = 0
  nile : ∀ p ∈ t.rows, p.1.1 = none → p.1.2 = 0
  li : t.init.length ≤ 140737488351232
  lr : t.rows.length ≤ 5864062014634
  le : ∀ p ∈ t.rows, p.2.length ≤ 140737488351232
  lo : fits t.loop
theorem TrcIn.chg {w w' : World} {t : Trc} {a b : Hdl} (H : TrcIn w t a b) (hc : Chg w w' none_) : TrcIn w' t a b := ⟨H.init.chg hc, H.rows.chg hc, fun p hp => (H.each p hp).chg hc, H.nila, H.nilb, H.nile, H.li, H.lr, H.le, H.lo⟩
def fitsM (c : Circ) (t : Trc) : Bool := decide (t.init.length = c.latches.length) && decide (1 ≤ t.rows.length) && decide (t.rows.length ≤ 512) && decide (-1 ≤ t.loop) && decide (t.loop < t.rows.length) && t.rows.all fun p => decide (p.2.length = c.inputs.length)
structure Fit (c : Circ) (t : Trc) : Prop where
  init : t.init.length = c.latches.length
  pos : 1 ≤ t.rows.length
  few : t.rows.length ≤ 512
  lo : -1 ≤ t.loop
  hi : t.loop < t.rows.length
  rows : ∀ p ∈ t.rows, p.2.length = c.inputs.length
theorem fitsM_iff {c : Circ} {t : Trc} : fitsM c t = true ↔ Fit c t := by
  unfold fitsM
  simp only [Bool.and_eq_true, decide_eq_true_eq, List.all_eq_true]
  exact ⟨fun ⟨⟨⟨⟨⟨h1, h2⟩, h3⟩, h4⟩, h5⟩, h6⟩ => ⟨h1, h2, h3, h4, h5, h6⟩, fun h => ⟨⟨⟨⟨⟨h.init, h.pos⟩, h.few⟩, h.lo⟩, h.hi⟩, h.rows⟩⟩
theorem fitsM_false {c : Circ} {t : Trc} (h : ¬ Fit c t) : fitsM c t = false := by
  cases hf : fitsM c t
  · rfl
  · exact absurd (fitsM_iff.1 hf) h
/-- The states of a run, and what is so in its steps. -/
noncomputable def stM (c : Circ) (t : Trc) : Nat → List Bool
  | 0 => t.init
  | k + 1 => nxtM c (valM c (stM c t k) (gt t.rows (k : Int)).2)
noncomputable def runM (c : Circ) (t : Trc) (n : Nat) : List Mom := (List.range n).map fun k => momM c (stM c t k) (valM c (stM c t k) (gt t.rows (k : Int)).2)
theorem runM_succ (c : Circ) (t : Trc) (n : Nat) : runM c t (n + 1) = runM c t n ++ [momM c (stM c t n) (valM c (stM c t n) (gt t.rows (n : Int)).2)] := by unfold runM; rw [List.range_succ, List.map_append]; rfl
theorem runM_len (c : Circ) (t : Trc) (n : Nat) : (runM c t n).length = n := by unfold runM; simp
theorem stM_len {c : Circ} {t : Trc} (h : t.init.length = c.latches.length) : ∀ k, (stM c t k).length = c.latches.length
  | 0 => h
  | k + 1 => by unfold stM nxtM; simp
noncomputable def runE (c : Circ) (t : Trc) : Int := if (lookM c).2 ≠ 0 then (lookM c).2 else if fitsM c t = true then 0 else 4
noncomputable def runsM (c : Circ) (t : Trc) : List Mom := if runE c t = 0 then runM c t t.rows.length else []
theorem runE_look {c : Circ} {t : Trc} (h : (lookM c).2 ≠ 0) : runE c t = (lookM c).2 := if_pos h
theorem runE_fit {c : Circ} {t : Trc} (h : (lookM c).2 = 0) (h2 : Fit c t) : runE c t = 0 := by unfold runE; rw [if_neg (by omega), if_pos (fitsM_iff.2 h2)]
theorem runE_not {c : Circ} {t : Trc} (h : (lookM c).2 = 0) (h2 : ¬ Fit c t) : runE c t = 4 := by unfold runE; rw [if_neg (by omega), if_neg (fun hh => h2 (fitsM_iff.1 hh))]
theorem runE_zero {c : Circ} {t : Trc} (h : runE c t = 0) : (lookM c).2 = 0 ∧ Fit c t := by
  unfold runE at h
  split at h
  · exact absurd h (by assumption)
  · split at h
    · rename_i h1 h2; exact ⟨by omega, fitsM_iff.1 h2⟩
    · cases h
/-- What Run answers. -/
def RunR (c : Circ) (t : Trc) (v : Value) (N : Mm) : Prop := ∃ (ps : List (HMom × Mom)) (A : Option Addr) (k : Nat), v = .tuple #[.slice A ps.length k, nu (runE c t)] ∧ ps.map (·.2) = runsM c t ∧ N = .vec encM 4 77 A k ps :: fam momE ps
theorem In.nil0 {Γ : Mm} {α : Type} {enc : α → List Value} {sz : Nat} {t : TypeId} {A : Option Addr} {c : Nat} {l : List α} {w : World} (h : In Γ (.vec enc sz t A c l)) (M : Mem w Γ) (hA : A = none) : c = 0 := by
  rcases (h.ok M).2 with ⟨h1, _⟩ | ⟨g, cap, cur, h1, _⟩
  · simp only [Value.slice.injEq] at h1; exact h1.2.2
  · simp only [Value.slice.injEq] at h1; rw [h1.1] at hA; cases hA
instance : Inhabited HMom := ⟨((none, 0), (none, 0), (none, 0))⟩
attribute [local irreducible] WC WL WX WS WO OX Does DoesU Enters CV Pure thenQ blockQ retQ Wants retQC GC GL GS GX RdB thenG blockG retG Rd At gt CVN CVM
set_option maxRecDepth 100000
theorem Fits_cv {w : World} {c : Circ} {h js : Hd} {t : Trc} {a b : Hdl} (H : CirAt w c h js) (hc : c.latches.length ≤ 16384 ∧ c.inputs.length ≤ 16384) (HT : TrcIn w t a b) : CVN Tryz.prog 30 [.agg (ccells c h).toArray, .agg (tcs t a b).toArray] w fun v N => N = [] ∧ v = .bool (fitsM c t) := by
  have hR := HT.rows
  have hlr := HT.lr
  have hli := HT.li
  have hlo := HT.lo
  unfold fits at hlo
  obtain ⟨hc1, hc2⟩ := hc
  refine CVN.enter 51 [4] Tryz.func30 rfl rfl rfl (by decide) rfl ?_
  by_cases h1 : t.init.length = c.latches.length ∧ 1 ≤ t.rows.length ∧ t.rows.length ≤ 512 ∧ -1 ≤ t.loop ∧ t.loop < t.rows.length
  · obtain ⟨g1, g2, g3, g4, g5⟩ := h1
    repeat' (first
|(apply GC_seqK;intro K hK)
|(apply hK;clear hK K)
|(apply GC_block)
|(apply GC_region)
|(apply GL_nil)
|(apply thenG_normal)
|(apply GC_skip)
|(apply GC_if_false;eq_refl)
|(apply GL_on;eq_refl;eq_refl)
|(apply G_pv;eq_refl;first|exact trivial|omega)
|(apply G_field;eq_refl)
|(apply G_ld;eq_refl;(repeat first|exact In.here|apply In.there|apply In.skip);eq_refl)
|(apply G_cmpF;eq_refl;eq_refl;omega)
|(apply G_len;eq_refl)
|(apply G_box;eq_refl;eq_refl;intro _))
    rename_i b0 b1
    refine GC_loopK [2, 3, 5] (fun i : Nat => [(6, nu i)]) (fun _ => [.box b1 33 (tcs t a b), .box b0 29 (ccells c h), .old w none_]) (fun i => i ≤ t.rows.length ∧ ∀ k < i, (gt t.rows (k : Int)).2.length = c.inputs.length) (fun i => t.rows.length - i) 0 (by repeat first | exact Pick.nil | (apply Pick.cons; eq_refl)) (by repeat first | exact trivial | refine ⟨rfl, ?_⟩) (by repeat first | exact Wk.nil | exact Wk.refl | (apply Wk.cons; (focus ((repeat first | exact Rem.here | apply Rem.there | apply Rem.skip); done))) | apply Wk.nilv | apply Wk.last | apply Wk.drop) ⟨Nat.zero_le _, fun k hk => absurd hk (Nat.not_lt_zero _)⟩ ?_
    rintro i ⟨hi, hall⟩
    rcases Nat.lt_or_ge i t.rows.length with hlt | hge
    · have hm := gt_mem (l := t.rows) (i := (i : Int)) (by omega) (by omega)
      have hle := HT.le _ hm
      by_cases hx : (gt t.rows (i : Int)).2.length = c.inputs.length
      · repeat' (first
|(apply GC_seqK;intro K hK)
|(apply hK;clear hK K)
|(apply GC_block)
|(apply GC_region)
|(apply GL_nil)
|(apply thenG_normal)
|(apply blockG_normal)
|(apply GC_skip)
|(apply GC_if_true;eq_refl)
|(apply GC_if_false;eq_refl)
|(apply GL_on;eq_refl;eq_refl)
|(refine GC_draws (id := 7) [.q 0, .q 1, .q 2, .q 3, .q 4, .q 5, .q 6, .q 7, .q 8, .q 9] mixed (by kernel_rfl) (by kernel_rfl) ?_)
|(apply GS_nil)
|(apply GS_qon;eq_refl;eq_refl;eq_refl;eq_refl)
|(apply G_pv;eq_refl;first|exact trivial|omega)
|(apply G_field;eq_refl)
|(apply G_ld;eq_refl;(repeat first|exact In.here|apply In.there|apply In.skip);eq_refl)
|(apply G_rd;eq_refl;(first|(apply Rd.own;(repeat first|exact In.here|apply In.there|apply In.skip);infer_instance)|(apply Rd.old;(repeat first|exact In.here|apply In.there|apply In.skip);assumption)|(apply Rd.oldR;(repeat first|exact In.here|apply In.there|apply In.skip);assumption)|exact Rd.nil|assumption);(case ih => infer_instance);omega;omega;eq_refl)
|(apply G_cmpT;eq_refl;eq_refl;omega)
|(apply G_cmpF;eq_refl;eq_refl;omega)
|(apply G_len;eq_refl)
|(apply G_ix;eq_refl;eq_refl;(first|(apply Rd.own;(repeat first|exact In.here|apply In.there|apply In.skip);infer_instance)|(apply Rd.old;(repeat first|exact In.here|apply In.there|apply In.skip);assumption)|(apply Rd.oldR;(repeat first|exact In.here|apply In.there|apply In.skip);assumption)|exact Rd.nil|assumption);(first|eq_refl|omega);omega;omega))
        exact ⟨i + 1, (by repeat first | exact trivial | refine ⟨rfl, ?_⟩), (by repeat first | exact Wk.nil | exact Wk.refl | (apply Wk.cons; (focus ((repeat first | exact Rem.here | apply Rem.there | apply Rem.skip); done))) | apply Wk.nilv | apply Wk.last | apply Wk.drop), ⟨hlt, fun k hk => if h1 : k < i then hall k h1 else by rw [show k = i by omega]; exact hx⟩, by omega⟩
      · repeat' (first
|(apply GC_seqK;intro K hK)
|(apply hK;clear hK K)
|(apply GC_block)
|(apply GC_region)
|(apply GL_nil)
|(apply thenG_normal)
|(apply thenG_ret)
|(apply blockG_ret)
|(apply GC_ret)
|(apply GC_skip)
|(apply GC_if_true;eq_refl)
|(apply retG1;eq_refl)
|(apply GL_on;eq_refl;eq_refl)
|(refine GC_draws (id := 7) [.q 0, .q 1, .q 2, .q 3, .q 4, .q 5, .q 6, .q 7, .q 8, .q 9] mixed (by kernel_rfl) (by kernel_rfl) ?_)
|(apply GS_nil)
|(apply GS_qon;eq_refl;eq_refl;eq_refl;eq_refl)
|(apply G_pv;eq_refl;first|exact trivial|omega)
|(apply G_field;eq_refl)
|(apply G_ld;eq_refl;(repeat first|exact In.here|apply In.there|apply In.skip);eq_refl)
|(apply G_rd;eq_refl;(first|(apply Rd.own;(repeat first|exact In.here|apply In.there|apply In.skip);infer_instance)|(apply Rd.old;(repeat first|exact In.here|apply In.there|apply In.skip);assumption)|(apply Rd.oldR;(repeat first|exact In.here|apply In.there|apply In.skip);assumption)|exact Rd.nil|assumption);(case ih => infer_instance);omega;omega;eq_refl)
|(apply G_cmpT;eq_refl;eq_refl;omega)
|(apply G_len;eq_refl)
|(apply G_ix;eq_refl;eq_refl;(first|(apply Rd.own;(repeat first|exact In.here|apply In.there|apply In.skip);infer_instance)|(apply Rd.old;(repeat first|exact In.here|apply In.there|apply In.skip);assumption)|(apply Rd.oldR;(repeat first|exact In.here|apply In.there|apply In.skip);assumption)|exact Rd.nil|assumption);(first|eq_refl|omega);omega;omega))
        exact ⟨[], (by repeat first | exact Wk.nil | exact Wk.refl | (apply Wk.cons; (focus ((repeat first | exact Rem.here | apply Rem.there | apply Rem.skip); done))) | apply Wk.nilv | apply Wk.last | apply Wk.drop), rfl, by rw [fitsM_false fun hf => hx (hf.rows _ hm)]⟩
    · repeat' (first
|(apply GC_seqK;intro K hK)
|(apply hK;clear hK K)
|(clear hK K;apply hK;clear hK K)
|(apply GC_region)
|(apply GL_nil)
|(apply thenG_normal)
|(apply thenG_exit)
|(apply blockG_hit)
|(apply GC_ret)
|(apply GC_exit)
|(apply GC_if_false;eq_refl)
|(apply retG1;eq_refl)
|(apply GL_on;eq_refl;eq_refl)
|(apply G_pv;eq_refl;first|exact trivial|omega)
|(apply G_cmpF;eq_refl;eq_refl;omega))
      refine ⟨[], (by repeat first | exact Wk.nil | exact Wk.refl | (apply Wk.cons; (focus ((repeat first | exact Rem.here | apply Rem.there | apply Rem.skip); done))) | apply Wk.nilv | apply Wk.last | apply Wk.drop), rfl, ?_⟩
      rw [fitsM_iff.2 ⟨g1, g2, g3, g4, g5, fun p hp => ?_⟩]
      obtain ⟨k, hk, rfl⟩ := List.mem_iff_getElem.1 hp
      rw [← gt_nat hk]
      exact hall k (by omega)
  · have hf : fitsM c t = false := fitsM_false fun hf => h1 ⟨hf.init, hf.pos, hf.few, hf.lo, hf.hi⟩
    rw [hf]
    repeat' (first
|(apply GC_seqK;intro K hK)
|(apply hK;clear hK K)
|(apply GC_region)
|(apply GL_nil)
|(apply thenG_normal)
|(apply thenG_ret)
|(apply GC_ret)
|(apply GC_if_true;eq_refl)
|(apply retG1;eq_refl)
|(apply GL_on;eq_refl;eq_refl)
|(apply GL_off;eq_refl;eq_refl)
|(apply G_pv;eq_refl;first|exact trivial|omega)
|(apply G_field;eq_refl)
|(apply G_ld;eq_refl;(repeat first|exact In.here|apply In.there|apply In.skip);eq_refl)
|(apply G_cmpT;eq_refl;eq_refl;omega)
|(apply G_cmp;eq_refl;eq_refl;all_goals intro _)
|(apply G_len;eq_refl)
|(apply G_box;eq_refl;eq_refl;intro _))
    all_goals first
      | exact ⟨[], (by repeat first | exact Wk.nil | exact Wk.refl | (apply Wk.cons; (focus ((repeat first | exact Rem.here | apply Rem.there | apply Rem.skip); done))) | apply Wk.nilv | apply Wk.last | apply Wk.drop), rfl, rfl⟩
      | (exfalso; omega)
theorem Run0_cv {w : World} {c : Circ} {h js : Hd} {t : Trc} {a b : Hdl} {B : Option Addr} {k1 : Nat} (R : Right c) (H : CirAt w c h js) (hf : c.Fits) (hB : RowA w icell 1 B (ordM c)) (HT : TrcIn w t a b) (F : Fit c t) :
    CVN Tryz.prog 55 [.agg (ccells c h).toArray, .slice B (ordM c).length k1, .agg (tcs t a b).toArray] w fun v N => ∃ (ps : List (HMom × Mom)) (A : Option Addr) (k : Nat) (A' : Option Addr) (k' : Nat), v = .tuple #[.slice A ps.length k, .slice A' c.latches.length k'] ∧ ps.map (·.2) = runM c t t.rows.length ∧ N = .vec booc 1 4 A' k' (stM c t t.rows.length) :: .vec encM 4 77 A k ps :: fam momE ps := by
  have hR := HT.rows
  have hI := HT.init
  have hna := HT.nila
  have g1 := F.init
  have g3 := F.few
  have n2 := R.nLat
  have hv0 : ∀ Γ A k s (i : Nat), i < t.rows.length → s = stM c t i → In Γ (.old w none_) → In Γ (.vec booc 1 4 A k s) → ∀ w', Mem w' Γ → CVN Tryz.prog 33 [.agg (ccells c h).toArray, .slice B (ordM c).length k1, .slice A s.length k, .slice (gt t.rows (i : Int)).1.1 (gt t.rows (i : Int)).2.length (gt t.rows (i : Int)).1.2] w' _ := fun Γ A k s i hi hs ho hv w' M => by
    have hm := gt_mem (l := t.rows) (i := (i : Int)) (by omega) (by omega)
    exact Values0_cv R (H.chg (ho.old M)) (hB.chg (ho.old M)) (hv.row M) ((HT.each _ hm).chg (ho.old M)) (by rw [hs]; exact stM_len F.init i) (F.rows _ hm)
  have hmo : ∀ Γ A k A' k' s r, s.length = c.latches.length → In Γ (.old w none_) → In Γ (.vec booc 1 4 A k s) → In Γ (.vec booc 1 4 A' k' (valM c s r)) → ∀ w', Mem w' Γ → CVN Tryz.prog 80 [.agg (ccells c h).toArray, .slice A s.length k, .slice A' (valM c s r).length k'] w' _ := fun Γ A k A' k' s r hs ho hv hv' w' M =>
    momentRef_cv R (H.chg (ho.old M)) hf (hv.row M) (hv.nil0 M) (by omega) (hv'.row M) (valM_len c s r)
  have hnx : ∀ Γ A k s r, In Γ (.old w none_) → In Γ (.vec booc 1 4 A k (valM c s r)) → ∀ w', Mem w' Γ → CVN Tryz.prog 81 [.agg (ccells c h).toArray, .slice A (valM c s r).length k] w' _ := fun Γ A k s r ho hv w' M =>
    Next0_cv (H.chg (ho.old M)) (hv.row M) R.nLat fun x hx => (R.lat hx).2.1.has R.m1 (valM_len c s r)
  refine CVN.enter 44 [6, 7] Tryz.func55 rfl rfl rfl (by decide) rfl ?_
  repeat' (first
|(apply GC_seqK;intro K hK)
|(apply hK;clear hK K)
|(apply GC_block)
|(apply GC_region)
|(apply GL_nil)
|(apply thenG_normal)
|(apply GL_on;eq_refl;eq_refl)
|(apply G_pv;eq_refl;first|exact trivial|omega)
|(apply G_field;eq_refl)
|(apply G_ld;eq_refl;(repeat first|exact In.here|apply In.there|apply In.skip);eq_refl)
|(apply G_box;eq_refl;eq_refl;intro _)
|(apply G_appBR;(first|exact wr_p|kernel_rfl);eq_refl;eq_refl;(first|(apply Rd.own;(repeat first|exact In.here|apply In.there|apply In.skip);infer_instance)|(apply Rd.old;(repeat first|exact In.here|apply In.there|apply In.skip);assumption)|(apply Rd.oldR;(repeat first|exact In.here|apply In.there|apply In.skip);assumption)|exact Rd.nil|assumption);infer_instance;(repeat first|exact Upd.here|apply Upd.there|apply Upd.skip);(repeat first|exact Dec.nil|apply Dec.pr|apply Dec.tr|(apply Dec.c1;eq_refl)|(apply Dec.c2;eq_refl)|(apply Dec.c3;eq_refl));(intro A c;(repeat first|exact Upd.here|apply Upd.there|apply Upd.skip));(intro _;trivial);(first|(apply Rd.own;(repeat first|exact In.here|apply In.there|apply In.skip);infer_instance)|(apply Rd.old;(repeat first|exact In.here|apply In.there|apply In.skip);assumption)|(apply Rd.oldR;(repeat first|exact In.here|apply In.there|apply In.skip);assumption)|exact Rd.nil|assumption);assumption;eq_refl;eq_refl;decide;eq_refl;eq_refl;(try simp only [List.length_nil]);omega;decide;intro _ _)
|(apply G_new (fun b => .slice (some ⟨b, 0, none⟩) 0 0);eq_refl;(intro _;apply buildS30_0);intro _))
  rename_i b3 b5 b12 A8 c8
  refine GC_loopK [1, 3, 5] (fun s : Nat × (List Bool × Option Addr × Nat) × (List (HMom × Mom) × Option Addr × Nat) => [(8, .slice s.2.1.2.1 s.2.1.1.length s.2.1.2.2), (9, .slice s.2.2.2.1 s.2.2.1.length s.2.2.2.2), (10, nu s.1)])
    (fun s => .vec booc 1 4 s.2.1.2.1 s.2.1.2.2 s.2.1.1 :: .vec encM 4 77 s.2.2.2.1 s.2.2.2.2 s.2.2.1 :: .box b5 33 (tcs t a b) :: .box b3 29 (ccells c h) :: .old w none_ :: fam momE s.2.2.1)
    (fun s => s.1 ≤ t.rows.length ∧ s.2.1.1 = stM c t s.1 ∧ s.2.2.1.map (·.2) = runM c t s.1) (fun s => t.rows.length - s.1) (0, (t.init, A8, c8), ([], none, 0)) (by repeat first | exact Pick.nil | (apply Pick.cons; eq_refl)) (by repeat first | exact trivial | refine ⟨rfl, ?_⟩) (by repeat first | exact Wk.nil | exact Wk.refl | (apply Wk.cons; (focus ((repeat first | exact Rem.here | apply Rem.there | apply Rem.skip); done))) | apply Wk.nilv | apply Wk.last | apply Wk.drop) ⟨Nat.zero_le _, rfl, rfl⟩ ?_
  rintro ⟨i, ⟨st, A8, c8⟩, ⟨ps, A9, c9⟩⟩ ⟨hi, hst, hps⟩
  dsimp only at hi hst hps ⊢
  have hpl : ps.length = i := by have := congrArg List.length hps; rw [List.length_map, runM_len] at this; exact this
  have hsl : st.length = c.latches.length := by rw [hst]; exact stM_len F.init i
  rcases Nat.lt_or_ge i t.rows.length with hlt | hge
  · repeat' (first
|(apply G_call;eq_refl;eq_refl;(apply hv0;exact hlt;exact hst;(repeat first|exact In.here|apply In.there|apply In.skip);(repeat first|exact In.here|apply In.there|apply In.skip));rintro _ _ ⟨A11, k11, rfl, rfl⟩)
|(apply G_call;eq_refl;eq_refl;(apply hmo;exact hsl;(repeat first|exact In.here|apply In.there|apply In.skip);(repeat first|exact In.here|apply In.there|apply In.skip);(repeat first|exact In.here|apply In.there|apply In.skip));rintro _ _ ⟨hm, rfl, rfl⟩)
|(apply G_call;eq_refl;eq_refl;(apply hnx;(repeat first|exact In.here|apply In.there|apply In.skip);(repeat first|exact In.here|apply In.there|apply In.skip));rintro _ _ ⟨A12, k12, rfl, rfl⟩)
|(apply G_app;exact wr_p;eq_refl;eq_refl;(intro A c;(repeat first|exact Upd.here|apply Upd.there|apply Upd.skip));infer_instance;(repeat first|exact In.here|apply In.there|apply In.skip);exact Dec.one (hm, momM _ _ _);eq_refl;eq_refl;eq_refl;(simp only [List.length_cons, List.length_nil];omega);decide;intro A13 k13)
|(apply GC_seqK;intro K hK)
|(apply hK;clear hK K)
|(apply GC_block)
|(apply GC_region)
|(apply GL_nil)
|(apply thenG_normal)
|(apply blockG_normal)
|(apply GC_skip)
|(apply GC_if_true;eq_refl)
|(apply GL_on;eq_refl;eq_refl)
|(refine GC_draws (id := 6) [.q 0, .q 1, .q 2, .q 3, .q 4, .q 5, .q 6, .q 7, .c 8, .q 9] mixed (by kernel_rfl) (by kernel_rfl) ?_)
|(apply GS_nil)
|(apply GS_qon;eq_refl;eq_refl;eq_refl;eq_refl)
|(apply GS_con;eq_refl;eq_refl;eq_refl;eq_refl)
|(apply G_pv;eq_refl;first|exact trivial|omega)
|(apply G_field;eq_refl)
|(apply G_ld;eq_refl;(repeat first|exact In.here|apply In.there|apply In.skip);eq_refl)
|(apply G_ldW;eq_refl;(repeat first|exact In.here|apply In.there|apply In.skip);eq_refl)
|(apply G_rd;eq_refl;(first|(apply Rd.own;(repeat first|exact In.here|apply In.there|apply In.skip);infer_instance)|(apply Rd.old;(repeat first|exact In.here|apply In.there|apply In.skip);assumption)|(apply Rd.oldR;(repeat first|exact In.here|apply In.there|apply In.skip);assumption)|exact Rd.nil|assumption);(case ih => infer_instance);omega;omega;eq_refl)
|(apply G_cmpT;eq_refl;eq_refl;omega)
|(apply G_len;eq_refl)
|(apply G_ix;eq_refl;eq_refl;(first|(apply Rd.own;(repeat first|exact In.here|apply In.there|apply In.skip);infer_instance)|(apply Rd.old;(repeat first|exact In.here|apply In.there|apply In.skip);assumption)|(apply Rd.oldR;(repeat first|exact In.here|apply In.there|apply In.skip);assumption)|exact Rd.nil|assumption);(first|eq_refl|omega);omega;omega)
|(apply G_new (fun b => .slice (some ⟨b, 0, none⟩) 1 1);eq_refl;(intro _;apply buildS69_1 <;> eq_refl);intro _))
    refine ⟨(i + 1, (_, _, _), (_, _, _)), (by repeat first | exact trivial | refine ⟨rfl, ?_⟩), ?_, ⟨hlt, ?_, ?_⟩, by simp only; omega⟩
    · dsimp only
      rw [fam_snoc]
      exact (by repeat first | exact Wk.nil | exact Wk.refl | (apply Wk.cons; (focus ((repeat first | exact Rem.here | apply Rem.there | apply Rem.skip); done))) | apply Wk.nilv | apply Wk.last | apply Wk.drop)
    · dsimp only
      rw [hst]
      rfl
    · dsimp only
      rw [List.map_append, hps, runM_succ, ← hst]
      rfl
  · obtain rfl : i = t.rows.length := by omega
    repeat' (first
|(apply GC_seqK;intro K hK)
|(apply hK;clear hK K)
|(clear hK K;apply hK;clear hK K)
|(apply GC_region)
|(apply GL_nil)
|(apply thenG_normal)
|(apply thenG_exit)
|(apply blockG_hit)
|(apply GC_ret)
|(apply GC_exit)
|(apply GC_if_false;eq_refl)
|(apply retG2;eq_refl;eq_refl)
|(apply GL_on;eq_refl;eq_refl)
|(apply G_pv;eq_refl;first|exact trivial|omega)
|(apply G_field;eq_refl)
|(apply G_ld;eq_refl;(repeat first|exact In.here|apply In.there|apply In.skip);eq_refl)
|(apply G_cmpF;eq_refl;eq_refl;omega)
|(apply G_len;eq_refl))
    exact ⟨_ :: _ :: fam momE ps, (by repeat first | exact Wk.nil | exact Wk.refl | (apply Wk.cons; (focus ((repeat first | exact Rem.here | apply Rem.there | apply Rem.skip); done))) | apply Wk.nilv | apply Wk.last | apply Wk.drop), ps, A9, c9, A8, c8, by rw [hsl], hps, by rw [hst]⟩
end SC
end Go.Proofs.YtbmngkdnebklpaaGreat
end
section
/- trestleref07: Run; sim: Run. -/
set_option linter.unusedVariables false
set_option linter.unusedSimpArgs false
namespace Go.Proofs.YtbmngkdnebklpaaGreat
namespace SC
open Go.Proofs
def stEnt : Nat → Option Addr → Nat → List Bool → Mm
  | 0, _, _, _ => []
  | _ + 1, A, k, l => [.vec booc 1 4 A k l]
attribute [local irreducible] WC WL WX WS WO OX Does DoesU Enters CV Pure thenQ blockQ retQ Wants retQC GC GL GS GX RdB thenG blockG retG Rd At gt CVN CVM
set_option maxRecDepth 100000
theorem Run_cv {w : World} {c : Circ} {h js : Hd} {t : Trc} {a b : Hdl} (H : CirIn w c h js) (HT : TrcIn w t a b) : CVN Tryz.prog 25 [.agg (ccells c h).toArray, .agg (tcs t a b).toArray] w (RunR c t) := by
  have hrd : ∀ Γ, In Γ (.old w none_) → ∀ w', Mem w' Γ → CVN Tryz.prog 48 [.agg (ccells c h).toArray] w' (ReadyR c h) := fun Γ hi w' M => ready_cv (H.chg (hi.old M))
  have hI := HT.init
  have hR := HT.rows
  have hlr := HT.lr
  have hli := HT.li
  have hlo := HT.lo
  unfold fits at hlo
  refine CVN.enter 94 [4, 5] Tryz.func25 rfl rfl rfl (by decide) rfl ?_
  by_cases he : (lookM c).2 = 0
  · have R := right_of H.at_ H.sane he
    have n1 := R.nIn
    have n2 := R.nLat
    by_cases h1 : 1 ≤ t.rows.length ∧ t.rows.length ≤ 512 ∧ -1 ≤ t.loop ∧ t.loop < t.rows.length ∧ t.init.length = c.latches.length
    · obtain ⟨g2, g3, g4, g5, g1⟩ := h1
      repeat' (first
|(apply G_call;eq_refl;eq_refl;(apply hrd;(repeat first|exact In.here|apply In.there|apply In.skip));rintro _ _ (⟨he', rfl, rfl⟩|⟨_, p1, B1, k1, rfl, rfl⟩);(exact absurd he he'))
|(apply GC_seqK;intro K hK)
|(apply hK;clear hK K)
|(apply GC_block)
|(apply GC_region)
|(apply GL_nil)
|(apply thenG_normal)
|(apply GC_skip)
|(apply GC_if_false;eq_refl)
|(apply GL_on;eq_refl;eq_refl)
|(apply G_pv;eq_refl;first|exact trivial|omega)
|(apply G_field;eq_refl)
|(apply G_ld;eq_refl;(repeat first|exact In.here|apply In.there|apply In.skip);eq_refl)
|(apply G_ldW;eq_refl;(repeat first|exact In.here|apply In.there|apply In.skip);eq_refl)
|(apply G_cmpF;eq_refl;eq_refl;omega)
|(apply G_len;eq_refl)
|(apply G_box;eq_refl;eq_refl;intro _))
      rename_i b2 b3 hz
      refine GC_loopK [2, 3, 6, 8, 54, 55] (fun i : Nat => [(56, nu i)]) (fun _ => [.box p1 126 (rcells c h B1 k1), .vec icell 1 3 B1 k1 (ordM c), .box b3 33 (tcs t a b), .box b2 29 (ccells c h), .old w none_]) (fun i => i ≤ t.rows.length ∧ ∀ k < i, (gt t.rows (k : Int)).2.length = c.inputs.length) (fun i => t.rows.length - i) 0 (by repeat first | exact Pick.nil | (apply Pick.cons; eq_refl)) (by repeat first | exact trivial | refine ⟨rfl, ?_⟩) (by repeat first | exact Wk.nil | exact Wk.refl | (apply Wk.cons; (focus ((repeat first | exact Rem.here | apply Rem.there | apply Rem.skip); done))) | apply Wk.nilv | apply Wk.last | apply Wk.drop) ⟨Nat.zero_le _, fun k hk => absurd hk (Nat.not_lt_zero _)⟩ ?_
      rintro i ⟨hi, hall⟩
      rcases Nat.lt_or_ge i t.rows.length with hlt | hge
      · have hm := gt_mem (l := t.rows) (i := (i : Int)) (by omega) (by omega)
        have hle := HT.le _ hm
        by_cases hx : (gt t.rows (i : Int)).2.length = c.inputs.length
        · repeat' (first
|(apply GC_seqK;intro K hK)
|(apply hK;clear hK K)
|(apply GC_block)
|(apply GC_region)
|(apply GL_nil)
|(apply thenG_normal)
|(apply blockG_normal)
|(apply GC_skip)
|(apply GC_if_true;eq_refl)
|(apply GC_if_false;eq_refl)
|(apply GL_on;eq_refl;eq_refl)
|(apply G_pv;eq_refl;first|exact trivial|omega)
|(apply G_field;eq_refl)
|(apply G_ld;eq_refl;(repeat first|exact In.here|apply In.there|apply In.skip);eq_refl)
|(apply G_rd;eq_refl;(first|(apply Rd.own;(repeat first|exact In.here|apply In.there|apply In.skip);infer_instance)|(apply Rd.old;(repeat first|exact In.here|apply In.there|apply In.skip);assumption)|(apply Rd.oldR;(repeat first|exact In.here|apply In.there|apply In.skip);assumption)|exact Rd.nil|assumption);(case ih => infer_instance);omega;omega;eq_refl)
|(apply G_cmpT;eq_refl;eq_refl;omega)
|(apply G_cmpF;eq_refl;eq_refl;omega)
|(apply G_len;eq_refl)
|(apply G_ix;eq_refl;eq_refl;(first|(apply Rd.own;(repeat first|exact In.here|apply In.there|apply In.skip);infer_instance)|(apply Rd.old;(repeat first|exact In.here|apply In.there|apply In.skip);assumption)|(apply Rd.oldR;(repeat first|exact In.here|apply In.there|apply In.skip);assumption)|exact Rd.nil|assumption);(first|eq_refl|omega);omega;omega))
          exact ⟨i + 1, (by repeat first | exact trivial | refine ⟨rfl, ?_⟩), (by repeat first | exact Wk.nil | exact Wk.refl | (apply Wk.cons; (focus ((repeat first | exact Rem.here | apply Rem.there | apply Rem.skip); done))) | apply Wk.nilv | apply Wk.last | apply Wk.drop), ⟨hlt, fun k hk => if h1 : k < i then hall k h1 else by rw [show k = i by omega]; exact hx⟩, by omega⟩
        · have hnF : ¬ Fit c t := fun hf => hx (hf.rows _ hm)
          have e1 : runsM c t = [] := if_neg (by rw [runE_not he hnF]; decide)
          unfold RunR
          rw [runE_not he hnF, e1]
          repeat' (first
|(apply GC_seqK;intro K hK)
|(apply hK;clear hK K)
|(apply GC_block)
|(apply GC_region)
|(apply GL_nil)
|(apply thenG_normal)
|(apply thenG_ret)
|(apply blockG_ret)
|(apply GC_ret)
|(apply GC_skip)
|(apply GC_if_true;eq_refl)
|(apply retG2;eq_refl;eq_refl)
|(apply GL_on;eq_refl;eq_refl)
|(apply G_pv;eq_refl;first|exact trivial|omega)
|(apply G_field;eq_refl)
|(apply G_ld;eq_refl;(repeat first|exact In.here|apply In.there|apply In.skip);eq_refl)
|(apply G_rd;eq_refl;(first|(apply Rd.own;(repeat first|exact In.here|apply In.there|apply In.skip);infer_instance)|(apply Rd.old;(repeat first|exact In.here|apply In.there|apply In.skip);assumption)|(apply Rd.oldR;(repeat first|exact In.here|apply In.there|apply In.skip);assumption)|exact Rd.nil|assumption);(case ih => infer_instance);omega;omega;eq_refl)
|(apply G_cmpT;eq_refl;eq_refl;omega)
|(apply G_len;eq_refl)
|(apply G_ix;eq_refl;eq_refl;(first|(apply Rd.own;(repeat first|exact In.here|apply In.there|apply In.skip);infer_instance)|(apply Rd.old;(repeat first|exact In.here|apply In.there|apply In.skip);assumption)|(apply Rd.oldR;(repeat first|exact In.here|apply In.there|apply In.skip);assumption)|exact Rd.nil|assumption);(first|eq_refl|omega);omega;omega))
          exact ⟨[.vec encM 4 77 none 0 []], (by repeat first | exact Wk.nil | exact Wk.refl | (apply Wk.cons; (focus ((repeat first | exact Rem.here | apply Rem.there | apply Rem.skip); done))) | apply Wk.nilv | apply Wk.last | apply Wk.drop), [], none, 0, rfl, rfl, rfl⟩
      · have F : Fit c t := ⟨g1, g2, g3, g4, g5, fun p hp => by
          obtain ⟨k, hk, rfl⟩ := List.mem_iff_getElem.1 hp
          rw [← gt_nat hk]
          exact hall k (by omega)⟩
        have e1 : runsM c t = runM c t t.rows.length := if_pos (runE_fit he F)
        have hv0 : ∀ Γ S k s (i : Nat), i < t.rows.length → s = stM c t i → In Γ (.old w none_) → Rd Γ booc 1 S s → In Γ (.box p1 126 (rcells c h B1 k1)) → In Γ (.vec icell 1 3 B1 k1 (ordM c)) → ∀ w', Mem w' Γ → CVN Tryz.prog 49 [pt p1, .slice S s.length k, .slice (gt t.rows (i : Int)).1.1 (gt t.rows (i : Int)).2.length (gt t.rows (i : Int)).1.2] w' _ := fun Γ S k s i hi hs ho hv hb hov w' M => by
          have hm := gt_mem (l := t.rows) (i := (i : Int)) (by omega) (by omega)
          exact values_cv R (hb.box M) (H.at_.chg (ho.old M)) (hov.row M) (hv.at M) ((HT.each _ hm).chg (ho.old M)) (by rw [hs]; exact stM_len F.init i) (F.rows _ hm)
        have hmo : ∀ Γ S k A' k' s r, s.length = c.latches.length → In Γ (.old w none_) → Rd Γ booc 1 S s → In Γ (.box p1 126 (rcells c h B1 k1)) → In Γ (.vec booc 1 4 A' k' (valM c s r)) → ∀ w', Mem w' Γ → CVN Tryz.prog 50 [pt p1, .slice S s.length k, .slice A' (valM c s r).length k'] w' _ := fun Γ S k A' k' s r hs ho hv hb hv' w' M =>
          moment_cv R (hb.box M) (H.at_.chg (ho.old M)) H.fits (hv.at M) (by omega) (hv'.row M) (valM_len c s r)
        have hnx : ∀ Γ A k s r, In Γ (.old w none_) → In Γ (.box p1 126 (rcells c h B1 k1)) → In Γ (.vec booc 1 4 A k (valM c s r)) → ∀ w', Mem w' Γ → CVN Tryz.prog 51 [pt p1, .slice A (valM c s r).length k] w' _ := fun Γ A k s r ho hb hv w' M =>
          next_cv (hb.box M) (H.at_.chg (ho.old M)) (hv.row M) R.nLat fun x hx => (R.lat hx).2.1.has R.m1 (valM_len c s r)
        repeat' (first
|(apply G_make0 encM;eq_refl;eq_refl;eq_refl;omega;eq_refl;omega;decide;omega;intro b0 c0)
|(apply GC_seqK;intro K hK)
|(apply hK;clear hK K)
|(clear hK K;apply hK;clear hK K)
|(apply GC_block)
|(apply GC_region)
|(apply GL_nil)
|(apply thenG_normal)
|(apply thenG_exit)
|(apply blockG_hit)
|(apply GC_exit)
|(apply GC_if_false;eq_refl)
|(apply GL_on;eq_refl;eq_refl)
|(apply G_pv;eq_refl;first|exact trivial|omega)
|(apply G_field;eq_refl)
|(apply G_ld;eq_refl;(repeat first|exact In.here|apply In.there|apply In.skip);eq_refl)
|(apply G_cmpF;eq_refl;eq_refl;omega)
|(apply G_len;eq_refl))
        refine GC_loopK [3, 6, 72, 73] (fun s : Nat × (List Bool × Option Addr × Nat) × (List (HMom × Mom) × Option Addr × Nat) => [(12, .slice s.2.1.2.1 s.2.1.1.length s.2.1.2.2), (11, .slice s.2.2.2.1 s.2.2.1.length s.2.2.2.2), (74, nu s.1)])
          (fun s => stEnt s.1 s.2.1.2.1 s.2.1.2.2 s.2.1.1 ++ .vec encM 4 77 s.2.2.2.1 s.2.2.2.2 s.2.2.1 :: .box p1 126 (rcells c h B1 k1) :: .vec icell 1 3 B1 k1 (ordM c) :: .box b3 33 (tcs t a b) :: .old w none_ :: fam momE s.2.2.1)
          (fun s => s.1 ≤ t.rows.length ∧ s.2.1.1 = stM c t s.1 ∧ s.2.2.1.map (·.2) = runM c t s.1 ∧ (s.1 = 0 → s.2.1 = (t.init, a.1, a.2))) (fun s => t.rows.length - s.1) (0, (t.init, a.1, a.2), ([], some ⟨b0, 0, none⟩, c0)) (by repeat first | exact Pick.nil | (apply Pick.cons; eq_refl)) (by repeat first | exact trivial | refine ⟨rfl, ?_⟩) (by repeat first | exact Wk.nil | exact Wk.refl | (apply Wk.cons; (focus ((repeat first | exact Rem.here | apply Rem.there | apply Rem.skip); done))) | apply Wk.nilv | apply Wk.last | apply Wk.drop) ⟨Nat.zero_le _, rfl, rfl, fun _ => rfl⟩ ?_
        rintro ⟨i, ⟨st, A8, c8⟩, ⟨ps, A9, c9⟩⟩ ⟨hi, hst, hps, h0⟩
        dsimp only at hi hst hps h0 ⊢
        have hpl : ps.length = i := by have := congrArg List.length hps; rw [List.length_map, runM_len] at this; exact this
        have hsl : st.length = c.latches.length := by rw [hst]; exact stM_len F.init i
        rcases Nat.lt_or_ge i t.rows.length with hlt | hge
        · have hrow : RowA w booc 1 A8 st ∨ 0 < i := by
            rcases Nat.eq_zero_or_pos i with h1 | h1
            · have := h0 h1
              simp only [Prod.mk.injEq] at this
              rw [this.1, this.2.1]
              exact .inl hI
            · exact .inr h1
          have hex : ∀ {Γ'' : Mm}, True := fun {_} => trivial
          cases i with
          | zero =>
            have hS : RowA w booc 1 A8 st := hrow.resolve_right (by omega)
            repeat' (first
|(apply G_call;eq_refl;eq_refl;(apply hv0;exact hlt;exact hst;(repeat first|exact In.here|apply In.there|apply In.skip);(first|(apply Rd.own;(repeat first|exact In.here|apply In.there|apply In.skip);infer_instance)|(apply Rd.old;(repeat first|exact In.here|apply In.there|apply In.skip);assumption)|(apply Rd.oldR;(repeat first|exact In.here|apply In.there|apply In.skip);assumption)|exact Rd.nil|assumption);(repeat first|exact In.here|apply In.there|apply In.skip);(repeat first|exact In.here|apply In.there|apply In.skip));rintro _ _ ⟨A11, k11, rfl, rfl⟩)
|(apply G_call;eq_refl;eq_refl;(apply hmo;exact hsl;(repeat first|exact In.here|apply In.there|apply In.skip);(first|(apply Rd.own;(repeat first|exact In.here|apply In.there|apply In.skip);infer_instance)|(apply Rd.old;(repeat first|exact In.here|apply In.there|apply In.skip);assumption)|(apply Rd.oldR;(repeat first|exact In.here|apply In.there|apply In.skip);assumption)|exact Rd.nil|assumption);(repeat first|exact In.here|apply In.there|apply In.skip);(repeat first|exact In.here|apply In.there|apply In.skip));rintro _ _ ⟨hm, rfl, rfl⟩)
|(apply G_call;eq_refl;eq_refl;(apply hnx;(repeat first|exact In.here|apply In.there|apply In.skip);(repeat first|exact In.here|apply In.there|apply In.skip);(repeat first|exact In.here|apply In.there|apply In.skip));rintro _ _ ⟨A12, k12, rfl, rfl⟩)
|(apply G_app;exact wr_p;eq_refl;eq_refl;(intro A c;(repeat first|exact Upd.here|apply Upd.there|apply Upd.skip));infer_instance;(repeat first|exact In.here|apply In.there|apply In.skip);exact Dec.one (hm, momM _ _ _);eq_refl;eq_refl;eq_refl;(simp only [List.length_cons, List.length_nil];omega);decide;intro A13 k13)
|(apply GC_seqK;intro K hK)
|(apply hK;clear hK K)
|(apply GC_block)
|(apply GC_region)
|(apply GL_nil)
|(apply thenG_normal)
|(apply blockG_normal)
|(apply GC_skip)
|(apply GC_if_true;eq_refl)
|(apply GL_on;eq_refl;eq_refl)
|(apply G_pv;eq_refl;first|exact trivial|omega)
|(apply G_rd;eq_refl;(first|(apply Rd.own;(repeat first|exact In.here|apply In.there|apply In.skip);infer_instance)|(apply Rd.old;(repeat first|exact In.here|apply In.there|apply In.skip);assumption)|(apply Rd.oldR;(repeat first|exact In.here|apply In.there|apply In.skip);assumption)|exact Rd.nil|assumption);(case ih => infer_instance);omega;omega;eq_refl)
|(apply G_cmpT;eq_refl;eq_refl;omega)
|(apply G_ix;eq_refl;eq_refl;(first|(apply Rd.own;(repeat first|exact In.here|apply In.there|apply In.skip);infer_instance)|(apply Rd.old;(repeat first|exact In.here|apply In.there|apply In.skip);assumption)|(apply Rd.oldR;(repeat first|exact In.here|apply In.there|apply In.skip);assumption)|exact Rd.nil|assumption);(first|eq_refl|omega);omega;omega)
|(apply G_new (fun b => .slice (some ⟨b, 0, none⟩) 1 1);eq_refl;(intro _;apply buildS69_1 <;> eq_refl);intro _))
            refine ⟨(0 + 1, (_, _, _), (_, _, _)), (by repeat first | exact trivial | refine ⟨rfl, ?_⟩), ?_, ⟨hlt, ?_, ?_, fun h => by simp at h⟩, by simp only; omega⟩
            · dsimp only
              rw [fam_snoc]
              exact (by repeat first | exact Wk.nil | exact Wk.refl | (apply Wk.cons; (focus ((repeat first | exact Rem.here | apply Rem.there | apply Rem.skip); done))) | apply Wk.nilv | apply Wk.last | apply Wk.drop)
            · dsimp only
              first | (rw [hst]; done) | (rw [hst]; rfl)
            · dsimp only
              rw [runM_succ c t 0, List.map_append, hps, ← hst]
              first | done | rfl
          | succ i =>
            repeat' (first
|(apply G_call;eq_refl;eq_refl;(apply hv0;exact hlt;exact hst;(repeat first|exact In.here|apply In.there|apply In.skip);(first|(apply Rd.own;(repeat first|exact In.here|apply In.there|apply In.skip);infer_instance)|(apply Rd.old;(repeat first|exact In.here|apply In.there|apply In.skip);assumption)|(apply Rd.oldR;(repeat first|exact In.here|apply In.there|apply In.skip);assumption)|exact Rd.nil|assumption);(repeat first|exact In.here|apply In.there|apply In.skip);(repeat first|exact In.here|apply In.there|apply In.skip));rintro _ _ ⟨A11, k11, rfl, rfl⟩)
|(apply G_call;eq_refl;eq_refl;(apply hmo;exact hsl;(repeat first|exact In.here|apply In.there|apply In.skip);(first|(apply Rd.own;(repeat first|exact In.here|apply In.there|apply In.skip);infer_instance)|(apply Rd.old;(repeat first|exact In.here|apply In.there|apply In.skip);assumption)|(apply Rd.oldR;(repeat first|exact In.here|apply In.there|apply In.skip);assumption)|exact Rd.nil|assumption);(repeat first|exact In.here|apply In.there|apply In.skip);(repeat first|exact In.here|apply In.there|apply In.skip));rintro _ _ ⟨hm, rfl, rfl⟩)
|(apply G_call;eq_refl;eq_refl;(apply hnx;(repeat first|exact In.here|apply In.there|apply In.skip);(repeat first|exact In.here|apply In.there|apply In.skip);(repeat first|exact In.here|apply In.there|apply In.skip));rintro _ _ ⟨A12, k12, rfl, rfl⟩)
|(apply G_app;exact wr_p;eq_refl;eq_refl;(intro A c;(repeat first|exact Upd.here|apply Upd.there|apply Upd.skip));infer_instance;(repeat first|exact In.here|apply In.there|apply In.skip);exact Dec.one (hm, momM _ _ _);eq_refl;eq_refl;eq_refl;(simp only [List.length_cons, List.length_nil];omega);decide;intro A13 k13)
|(apply GC_seqK;intro K hK)
|(apply hK;clear hK K)
|(apply GC_block)
|(apply GC_region)
|(apply GL_nil)
|(apply thenG_normal)
|(apply blockG_normal)
|(apply GC_skip)
|(apply GC_if_true;eq_refl)
|(apply GL_on;eq_refl;eq_refl)
|(apply G_pv;eq_refl;first|exact trivial|omega)
|(apply G_rd;eq_refl;(first|(apply Rd.own;(repeat first|exact In.here|apply In.there|apply In.skip);infer_instance)|(apply Rd.old;(repeat first|exact In.here|apply In.there|apply In.skip);assumption)|(apply Rd.oldR;(repeat first|exact In.here|apply In.there|apply In.skip);assumption)|exact Rd.nil|assumption);(case ih => infer_instance);omega;omega;eq_refl)
|(apply G_cmpT;eq_refl;eq_refl;omega)
|(apply G_ix;eq_refl;eq_refl;(first|(apply Rd.own;(repeat first|exact In.here|apply In.there|apply In.skip);infer_instance)|(apply Rd.old;(repeat first|exact In.here|apply In.there|apply In.skip);assumption)|(apply Rd.oldR;(repeat first|exact In.here|apply In.there|apply In.skip);assumption)|exact Rd.nil|assumption);(first|eq_refl|omega);omega;omega)
|(apply G_new (fun b => .slice (some ⟨b, 0, none⟩) 1 1);eq_refl;(intro _;apply buildS69_1 <;> eq_refl);intro _))
            refine ⟨(i + 1 + 1, (_, _, _), (_, _, _)), (by repeat first | exact trivial | refine ⟨rfl, ?_⟩), ?_, ⟨hlt, ?_, ?_, fun h => by simp at h⟩, by simp only; omega⟩
            · dsimp only
              rw [fam_snoc]
              exact (by repeat first | exact Wk.nil | exact Wk.refl | (apply Wk.cons; (focus ((repeat first | exact Rem.here | apply Rem.there | apply Rem.skip); done))) | apply Wk.nilv | apply Wk.last | apply Wk.drop)
            · dsimp only
              first | (rw [hst]; done) | (rw [hst]; rfl)
            · dsimp only
              rw [runM_succ c t (i + 1), List.map_append, hps, ← hst]
              first | done | rfl
        · obtain rfl : i = t.rows.length := by omega
          repeat' (first
|(apply GC_seqK;intro K hK)
|(apply hK;clear hK K)
|(clear hK K;apply hK;clear hK K)
|(apply GC_region)
|(apply GL_nil)
|(apply thenG_normal)
|(apply thenG_exit)
|(apply blockG_hit)
|(apply GC_ret)
|(apply GC_exit)
|(apply GC_if_false;eq_refl)
|(apply retG2;eq_refl;eq_refl)
|(apply GL_on;eq_refl;eq_refl)
|(apply G_pv;eq_refl;first|exact trivial|omega)
|(apply G_cmpF;eq_refl;eq_refl;omega))
          refine ⟨_ :: fam momE ps, ?_, ps, A9, c9, by rw [runE_fit he F], by rw [e1]; exact hps, rfl⟩
          refine Wk.trans ⟨fun w M => M.right, fun k hk => owns_append.2 (.inr hk)⟩ ?_
          exact (by repeat first | exact Wk.nil | exact Wk.refl | (apply Wk.cons; (focus ((repeat first | exact Rem.here | apply Rem.there | apply Rem.skip); done))) | apply Wk.nilv | apply Wk.last | apply Wk.drop)
    · have hnF : ¬ Fit c t := fun hf => h1 ⟨hf.pos, hf.few, hf.lo, hf.hi, hf.init⟩
      have e1 : runsM c t = [] := if_neg (by rw [runE_not he hnF]; decide)
      unfold RunR
      rw [runE_not he hnF, e1]
      repeat' (first
|(apply G_call;eq_refl;eq_refl;(apply hrd;(repeat first|exact In.here|apply In.there|apply In.skip));rintro _ _ (⟨he', rfl, rfl⟩|⟨_, p1, B1, k1, rfl, rfl⟩);(exact absurd he he'))
|(apply GC_seqK;intro K hK)
|(apply hK;clear hK K)
|(apply GC_region)
|(apply GL_nil)
|(apply thenG_normal)
|(apply thenG_ret)
|(apply GC_ret)
|(apply GC_skip)
|(apply GC_if_true;eq_refl)
|(apply GC_if_false;eq_refl)
|(apply retG2;eq_refl;eq_refl)
|(apply GL_on;eq_refl;eq_refl)
|(apply GL_off;eq_refl;eq_refl)
|(apply G_pv;eq_refl;first|exact trivial|omega)
|(apply G_field;eq_refl)
|(apply G_ld;eq_refl;(repeat first|exact In.here|apply In.there|apply In.skip);eq_refl)
|(apply G_ldW;eq_refl;(repeat first|exact In.here|apply In.there|apply In.skip);eq_refl)
|(apply G_cmpT;eq_refl;eq_refl;omega)
|(apply G_cmpF;eq_refl;eq_refl;omega)
|(apply G_cmp;eq_refl;eq_refl;all_goals intro _)
|(apply G_len;eq_refl)
|(apply G_box;eq_refl;eq_refl;intro _))
      all_goals first
        | exact ⟨[.vec encM 4 77 none 0 []], (by repeat first | exact Wk.nil | exact Wk.refl | (apply Wk.cons; (focus ((repeat first | exact Rem.here | apply Rem.there | apply Rem.skip); done))) | apply Wk.nilv | apply Wk.last | apply Wk.drop), [], none, 0, rfl, rfl, rfl⟩
        | (exfalso; omega)
  · have e1 : runsM c t = [] := if_neg (by rw [runE_look he]; exact he)
    unfold RunR
    rw [runE_look he, e1]
    repeat' (first
|(apply G_call;eq_refl;eq_refl;(apply hrd;(repeat first|exact In.here|apply In.there|apply In.skip));rintro _ _ (⟨_, rfl, rfl⟩|⟨he', p1, B1, k1, rfl, rfl⟩);rotate_left;(exact absurd he' he))
|(apply GC_seqK;intro K hK)
|(apply hK;clear hK K)
|(apply GC_region)
|(apply GL_nil)
|(apply thenG_normal)
|(apply thenG_ret)
|(apply GC_ret)
|(apply GC_if_true;eq_refl)
|(apply retG2;eq_refl;eq_refl)
|(apply GL_on;eq_refl;eq_refl)
|(apply G_pv;eq_refl;first|exact trivial|omega)
|(apply G_ldW;eq_refl;(repeat first|exact In.here|apply In.there|apply In.skip);eq_refl)
|(apply G_cmpT;eq_refl;eq_refl;omega)
|(apply G_box;eq_refl;eq_refl;intro _))
    exact ⟨[.vec encM 4 77 none 0 []], (by repeat first | exact Wk.nil | exact Wk.refl | (apply Wk.cons; (focus ((repeat first | exact Rem.here | apply Rem.there | apply Rem.skip); done))) | apply Wk.nilv | apply Wk.last | apply Wk.drop), [], none, 0, rfl, rfl, rfl⟩
end SC
end Go.Proofs.YtbmngkdnebklpaaGreat
end
section
/- trestlelaw07: works. -/
set_option linter.unusedVariables false
set_option linter.unusedSimpArgs false
namespace Go.Proofs.YtbmngkdnebklpaaGreat
namespace SC
open Go.Proofs
attribute [local irreducible] WC WL WX WS WO OX Does DoesU Enters CV Pure thenQ blockQ retQ Wants retQC GC GL GS GX RdB thenG blockG retG Rd At CVN CVM
set_option maxRecDepth 100000
end SC
end Go.Proofs.YtbmngkdnebklpaaGreat
end
section
/- ShapeChecks: the walk. -/
set_option linter.unusedVariables false
set_option linter.unusedSimpArgs false
namespace Go.Proofs.YtbmngkdnebklpaaGreat
namespace SC
open Go.Proofs
theorem Circ.Fits.lens1 {c : Circ} (hf : c.Fits) : ∀ n ∈ c.lens, n + 1 ≤ 9223372036854775807 := by
  intro n hn
  have h1 := hf.inputs
  have h2 := hf.latches
  have h3 := hf.outputs
  have h4 := hf.bads
  have h5 := hf.constraints
  have h6 := hf.justice
  have h7 := hf.fairness
  have h8 := hf.ands
  have h9 := hf.symbols
  have h10 := hf.comments
  simp only [Circ.lens, List.mem_cons, List.not_mem_nil, or_false] at hn
  rcases hn with rfl | rfl | rfl | rfl | rfl | rfl | rfl | rfl | rfl | rfl <;> omega
attribute [local irreducible] WC WL WX WS WO OX Does DoesU Enters CV Pure thenQ blockQ retQ Wants retQC
set_option maxRecDepth 100000
end SC
end Go.Proofs.YtbmngkdnebklpaaGreat
end
section
/- trestlelaw07: SimStarts, SimSteps: the walks. -/
set_option linter.unusedVariables false
set_option linter.unusedSimpArgs false
namespace Go.Proofs.YtbmngkdnebklpaaGreat
namespace SC
open Go.Proofs
/-- A lent circuit, as an entry. -/
def lentX (base : Nat) (c : Circ) (h js : Hd) : EntX where
  own := fun k => ∃ i, (lentRow c h js i).v.ownBlock = some k
  ok := fun w => CirLent w base c h js
  lt := fun w H k ⟨i, hi⟩ => (World.ownsRow.lt (H i) k hi).2
  keep := fun w w' S H hc hn => fun i => own_chg (H i) hc fun k hk => hn k ⟨i, hk⟩
def LendR (c : Circ) (v : Value) (N : Mm) : Prop := ∃ base h' js', v = .agg (ccells c h').toArray ∧ N = [.any (lentX base c h' js')]
theorem LendG {w : World} {c : Circ} {h js : Hd} (H : CirAt w c h js) (hf : c.Fits1) (hn : Nils h js) : CVN Tryz.prog 6 [.agg (ccells c h).toArray] w (LendR c) := CV.mono (lendCircuit_cv H hf hn) fun v w' ⟨h', js', e1, e2, hc⟩ =>
  ⟨[.any (lentX w.heap.size c h' js')], Mem.join (.one e2) (.one hc) fun k ⟨E, hE, h1⟩ ⟨F, hF, h2⟩ => by
    simp only [List.mem_singleton] at hE hF
    subst hE hF
    obtain ⟨i, hi⟩ := h1
    have := (World.ownsRow.lt (e2 i) k hi).1
    have := h2.1
    omega, w.heap.size, h', js', e1, rfl⟩
/-- What comes in: a circuit, with its reach. -/
structure CirGot (w : World) (c : Circ) (h js : Hd) : Prop extends CirIn w c h js where
  fits1 : c.Fits1
  nils : Nils h js
theorem In.lent {Γ : Mm} {w w0 : World} {base : Nat} {c : Circ} {h js h' js' : Hd} (H : CirIn w0 c h js) (hi : In Γ (.any (lentX base c h' js'))) (M : Mem w Γ) : CirIn w c h' js' := ⟨CirLent.at (hi.ok M), H.sane, H.okay, H.fits⟩
theorem KeptG {Γ : Mm} {w0 w : World} {base : Nat} {c : Circ} {h js h' js' : Hd} (H : CirGot w0 c h js) (hi : In Γ (.any (lentX base c h' js'))) (ho : In Γ (.old w0 none_)) (M : Mem w Γ) : CVN Tryz.prog 16 [.agg (ccells c h').toArray, .agg (ccells c h).toArray] w fun v N => N = [] ∧ v = .bool true :=
  CVN.of (keptCircuit_cv (hi.ok M) (H.at_.chg (ho.old M)) H.okay H.fits1.lens1) fun v w' h => ⟨h.2, h.1⟩
attribute [local irreducible] WC WL WX WS WO OX Does DoesU Enters CV Pure thenQ blockQ retQ Wants retQC GC GL GS GX RdB thenG blockG retG Rd At gt CVN CVM
set_option maxRecDepth 100000
end SC
end Go.Proofs.YtbmngkdnebklpaaGreat
end
section
/- trestlelaw07: SimSteps: the walk. -/
set_option linter.unusedVariables false
set_option linter.unusedSimpArgs false
namespace Go.Proofs.YtbmngkdnebklpaaGreat
namespace SC
open Go.Proofs
theorem G_callM2 {P : Program} {n : Nat} {all : List Oper} {K : Env → Mm → Prop} {m : Md} {d : Option Tmp} {e : Env} {Γ Γ' : Mm} {ty : TypeId} {f : FuncId} [F : Go.Proofs.YtbmngkdnebklpaaGreat.SC.Fn P f] {args : Array Operand} {ats : Array TypeId} {vs : List Value} {C : Mm} {R : Value → Mm → Prop} (hm : wrOk all m = true) (h : evs e args.toList = some vs) (hc : ∀ w, Mem w C → CVM P f vs w C R) (hC : Rems Γ C Γ') (hr : ∀ v N, R v N → GN P n all K m (push d v e) (N ++ Γ')) :
    GX P n all K m d (.call { callee := .value (.func f), args := args, argTypes := ats }) ty e Γ :=
  G_callM hm h hC (fun w M => hc w (Mem.takes hC M).left) hr
attribute [local irreducible] WC WL WX WS WO OX Does DoesU Enters CV Pure thenQ blockQ retQ Wants retQC GC GL GS GX RdB thenG blockG retG Rd At gt CVN CVM
set_option maxRecDepth 100000
end SC
end Go.Proofs.YtbmngkdnebklpaaGreat
end
section
/- Lists of bools that come in. -/
set_option linter.unusedVariables false
set_option linter.unusedSimpArgs false
namespace Go.Proofs.YtbmngkdnebklpaaGreat
namespace SC
open Go.Proofs
set_option maxRecDepth 100000
section
variable {H : Type} {enc : TypeId × Value → H} {W : World} {base : Nat} {spare : Nat → Bool} {held : Bool}
theorem bytes4 : Tryz.prog.bytesOf 4 = 1 := by kernel_rfl
theorem openBoolS {fuel : Nat} {cs : List Value} {x : DataW H × List MemPlace} (h : DataW.trod enc Tryz.prog W base spare held fuel 4 cs = some x) : ∃ a, booc a = cs ∧ True := by
  obtain ⟨b, h1, h2⟩ := DataW.trod_bool Tryz.underlying4 h
  exact ⟨b, h1.symm, trivial⟩
/-- A list of bools that comes in. -/
theorem openBoolsF {fuel : Nat} {cs : List Value} {x : DataW H × List MemPlace} (h : DataW.trod enc Tryz.prog W base spare held fuel 30 cs = some x) : ∃ (A : Option Addr) (cp : Nat) (l : List Bool), cs = [.slice A l.length cp] ∧ RowA W booc 1 A l ∧ (A = none → cp = 0) ∧ (∀ R, (∀ n ∈ x.1.weights Tryz.prog 30, n ≤ R) → l.length ≤ R) := by
  obtain ⟨A, cp, l, e, r, _, _, z, w⟩ := openRowS booc (fun _ _ => True) Tryz.underlying30 (by kernel_rfl) (fun _ => rfl) (fun _ _ _ h => openBoolS h) h
  refine ⟨A, cp, l, e, r, z, fun R hR => ?_⟩
  have := w R hR
  rw [bytes4] at this
  omega
end
end SC
end Go.Proofs.YtbmngkdnebklpaaGreat
end
section
/- What is so of the values of a right circuit; trestlelaw07: lit. -/
set_option linter.unusedVariables false
set_option linter.unusedSimpArgs false
namespace Go.Proofs.YtbmngkdnebklpaaGreat
namespace SC
open Go.Proofs
/-! ### a list that is written from the left -/
section
variable {g : Nat → Nat} {h : List Bool → Nat → Bool} {v : List Bool}
end
theorem gtB (v : List Bool) (i : Int) : gt v i = v.getD i.toNat false := rfl
attribute [local irreducible] WC WL WX WS WO OX Does DoesU Enters CV Pure thenQ blockQ retQ Wants retQC GC GL GS GX RdB thenG blockG retG Rd At gt CVN CVM
set_option maxRecDepth 100000
end SC
end Go.Proofs.YtbmngkdnebklpaaGreat
end
section
/- trestlelaw07: SimGates: the walk. -/
set_option linter.unusedVariables false
set_option linter.unusedSimpArgs false
namespace Go.Proofs.YtbmngkdnebklpaaGreat
namespace SC
open Go.Proofs
attribute [local irreducible] WC WL WX WS WO OX Does DoesU Enters CV Pure thenQ blockQ retQ Wants retQC GC GL GS GX RdB thenG blockG retG Rd At gt CVN CVM
set_option maxRecDepth 100000
end SC
end Go.Proofs.YtbmngkdnebklpaaGreat
end
section
/- trestlebook: SameInts, SpoilInts, SameTrace; trestlelaw07: same. -/
set_option linter.unusedVariables false
set_option linter.unusedSimpArgs false
namespace Go.Proofs.YtbmngkdnebklpaaGreat
namespace SC
open Go.Proofs Go.Maps
set_option maxRecDepth 100000
/-! ### spots -/
/-! ### traces -/
structure TrcEq (t t' : Trc) : Prop where
  init : t.init = t'.init
  loop : t.loop = t'.loop
  rows : t.rows.map (·.2) = t'.rows.map (·.2)
theorem gt_snd {α β γ : Type} [Inhabited α] [Inhabited β] [Inhabited γ] {ps : List (α × β)} {qs : List (γ × β)} (h : ps.map (·.2) = qs.map (·.2)) {i : Nat} (hi : i < ps.length) : (gt ps (i : Int)).2 = (gt qs (i : Int)).2 := by
  have hl := congrArg List.length h
  simp only [List.length_map] at hl
  rw [gt_nat hi, gt_nat (by omega)]
  have := congrArg (fun l => l[i]?) h
  simp only [List.getElem?_map, List.getElem?_eq_getElem hi, List.getElem?_eq_getElem (show i < qs.length by omega), Option.map_some, Option.some.injEq] at this
  exact this
/-! ### the moments of a run, in memory -/
structure MomsIn (w : World) (A : Option Addr) (ps : List (HMom × Mom)) : Prop where
  row : RowA w encM 4 A ps
  st : ∀ p ∈ ps, RowA w booc 1 p.1.1.1 p.2.state
  bd : ∀ p ∈ ps, RowA w icell 1 p.1.2.1.1 p.2.bads
  fr : ∀ p ∈ ps, RowA w spotc 2 p.1.2.2.1 p.2.fair
  len : ps.length ≤ 9223372036854775807
  le : ∀ p ∈ ps, p.2.state.length ≤ 9223372036854775807 ∧ p.2.bads.length ≤ 9223372036854775807 ∧ p.2.fair.length ≤ 9223372036854775807
theorem vec_len {α : Type} {enc : α → List Value} {sz : Nat} {w : World} {t : TypeId} {A : Option Addr} {c : Nat} {l : List α} (h : w.ownsRow 0 t sz (.slice A l.length c) l.length (l.flatMap enc)) : l.length ≤ 9223372036854775807 := by
  rcases h.2 with ⟨_, h2⟩ | ⟨g, cap, cur, _, _, _, hc, hm, _⟩
  · omega
  · simp only [maxLen] at hm
    omega
theorem MomsIn.of {Γ : Mm} {w : World} {A : Option Addr} {k : Nat} {ps : List (HMom × Mom)} (hi : In Γ (.vec encM 4 77 A k ps)) (hf : ∀ E ∈ fam momE ps, In Γ E) (M : Mem w Γ) : MomsIn w A ps := by
  have h1 : ∀ p ∈ ps, In Γ (.vec booc 1 4 p.1.1.1 p.1.1.2 p.2.state) := fun p hp => hf _ (fam_mem hp (by unfold momE; simp))
  have h2 : ∀ p ∈ ps, In Γ (.vec icell 1 3 p.1.2.1.1 p.1.2.1.2 p.2.bads) := fun p hp => hf _ (fam_mem hp (by unfold momE; simp))
  have h3 : ∀ p ∈ ps, In Γ (.vec spotc 2 130 p.1.2.2.1 p.1.2.2.2 p.2.fair) := fun p hp => hf _ (fam_mem hp (by unfold momE; simp))
  exact ⟨hi.row M, fun p hp => (h1 p hp).row M, fun p hp => (h2 p hp).row M, fun p hp => (h3 p hp).row M, vec_len (hi.ok M), fun p hp => ⟨vec_len ((h1 p hp).ok M), vec_len ((h2 p hp).ok M), vec_len ((h3 p hp).ok M)⟩⟩
attribute [local irreducible] WC WL WX WS WO OX Does DoesU Enters CV Pure thenQ blockQ retQ Wants retQC GC GL GS GX RdB thenG blockG retG Rd At gt CVN CVM
theorem sameTrace_cv {w : World} {t t' : Trc} {a b a' b' : Hdl} (H : TrcIn w t a b) (H' : TrcIn w t' a' b') (E : TrcEq t t') : CVN Tryz.prog 12 [.agg (tcs t a b).toArray, .agg (tcs t' a' b').toArray] w fun v N => N = [] ∧ v = .bool true := by
  have e1 := E.init
  have e2 := E.loop
  have e3 := congrArg List.length E.rows
  simp only [List.length_map] at e3
  have hR := H.rows
  have hR' := H'.rows
  have hlr := H.lr
  have hI := H.init
  have hI' := H'.init
  have hli := H.li
  have hb0 : ∀ Γ, In Γ (.old w none_) → ∀ w', Mem w' Γ → CVN Tryz.prog 13 [.slice a.1 t.init.length a.2, .slice a'.1 t'.init.length a'.2] w' fun v N => N = [] ∧ v = .bool true := fun Γ hi w' M => (sameBools_cv (hI.chg (hi.old M)) (hI'.chg (hi.old M)) (by omega) (by rw [← e1]; omega)).mono fun v N ⟨e1', e2'⟩ => ⟨e1', by rw [e2', decide_eq_true e1]⟩
  refine CVN.enter 47 [4] Tryz.func12 rfl rfl rfl (by decide) rfl ?_
  repeat' (first
|(apply G_call;eq_refl;eq_refl;(apply hb0;(repeat first|exact In.here|apply In.there|apply In.skip));rintro _ _ ⟨rfl, rfl⟩)
|(apply GC_seqK;intro K hK)
|(apply hK;clear hK K)
|(apply GC_block)
|(apply GC_region)
|(apply GL_nil)
|(apply thenG_normal)
|(apply GC_skip)
|(apply GC_if_false;eq_refl)
|(apply GL_on;eq_refl;eq_refl)
|(apply G_pv;eq_refl;first|exact trivial|omega)
|(apply G_field;eq_refl)
|(apply G_ld;eq_refl;(repeat first|exact In.here|apply In.there|apply In.skip);eq_refl)
|(apply G_cmpF;eq_refl;eq_refl;omega)
|(apply G_len;eq_refl)
|(apply G_box;eq_refl;eq_refl;intro _))
  rename_i b2 b3
  refine GC_loopK [2, 3] (fun i : Nat => [(5, nu i)]) (fun _ => [.box b3 33 (tcs t' a' b'), .box b2 33 (tcs t a b), .old w none_]) (fun i => i ≤ t.rows.length) (fun i => t.rows.length - i) 0 (by repeat first | exact Pick.nil | (apply Pick.cons; eq_refl)) (by repeat first | exact trivial | refine ⟨rfl, ?_⟩) (by repeat first | exact Wk.nil | exact Wk.refl | (apply Wk.cons; (focus ((repeat first | exact Rem.here | apply Rem.there | apply Rem.skip); done))) | apply Wk.nilv | apply Wk.last | apply Wk.drop) (Nat.zero_le _) ?_
  intro i hi
  rcases Nat.lt_or_ge i t.rows.length with hlt | hge
  · have hm := gt_mem (l := t.rows) (i := (i : Int)) (by omega) (by omega)
    have hm' := gt_mem (l := t'.rows) (i := (i : Int)) (by omega) (by omega)
    have es := gt_snd E.rows hlt
    have hle := H.le _ hm
    have hb1 : ∀ Γ, In Γ (.old w none_) → ∀ w', Mem w' Γ → CVN Tryz.prog 13 [.slice (gt t.rows (i : Int)).1.1 (gt t.rows (i : Int)).2.length (gt t.rows (i : Int)).1.2, .slice (gt t'.rows (i : Int)).1.1 (gt t'.rows (i : Int)).2.length (gt t'.rows (i : Int)).1.2] w' fun v N => N = [] ∧ v = .bool true := fun Γ hi w' M => (sameBools_cv ((H.each _ hm).chg (hi.old M)) ((H'.each _ hm').chg (hi.old M)) (by omega) (by rw [← es]; omega)).mono fun v N ⟨e1', e2'⟩ => ⟨e1', by rw [e2', decide_eq_true es]⟩
    repeat' (first
|(apply G_call;eq_refl;eq_refl;(apply hb1;(repeat first|exact In.here|apply In.there|apply In.skip));rintro _ _ ⟨rfl, rfl⟩)
|(apply GC_seqK;intro K hK)
|(apply hK;clear hK K)
|(apply GC_block)
|(apply GC_region)
|(apply GL_nil)
|(apply thenG_normal)
|(apply blockG_normal)
|(apply GC_skip)
|(apply GC_if_true;eq_refl)
|(apply GC_if_false;eq_refl)
|(apply GL_on;eq_refl;eq_refl)
|(refine GC_draws (id := 6) [.q 0, .q 1, .q 2, .q 3, .q 4, .q 5, .q 6, .q 7, .q 8, .q 9, .c 10, .q 11] mixed (by kernel_rfl) (by kernel_rfl) ?_)
|(apply GS_nil)
|(apply GS_qon;eq_refl;eq_refl;eq_refl;eq_refl)
|(apply GS_con;eq_refl;eq_refl;eq_refl;eq_refl)
|(apply G_pv;eq_refl;first|exact trivial|omega)
|(apply G_field;eq_refl)
|(apply G_ld;eq_refl;(repeat first|exact In.here|apply In.there|apply In.skip);eq_refl)
|(apply G_rd;eq_refl;(first|(apply Rd.own;(repeat first|exact In.here|apply In.there|apply In.skip);infer_instance)|(apply Rd.old;(repeat first|exact In.here|apply In.there|apply In.skip);assumption)|(apply Rd.oldR;(repeat first|exact In.here|apply In.there|apply In.skip);assumption)|exact Rd.nil|assumption);(case ih => infer_instance);omega;omega;eq_refl)
|(apply G_cmpT;eq_refl;eq_refl;omega)
|(apply G_len;eq_refl)
|(apply G_ix;eq_refl;eq_refl;(first|(apply Rd.own;(repeat first|exact In.here|apply In.there|apply In.skip);infer_instance)|(apply Rd.old;(repeat first|exact In.here|apply In.there|apply In.skip);assumption)|(apply Rd.oldR;(repeat first|exact In.here|apply In.there|apply In.skip);assumption)|exact Rd.nil|assumption);(first|eq_refl|omega);omega;omega))
    exact ⟨i + 1, (by repeat first | exact trivial | refine ⟨rfl, ?_⟩), (by repeat first | exact Wk.nil | exact Wk.refl | (apply Wk.cons; (focus ((repeat first | exact Rem.here | apply Rem.there | apply Rem.skip); done))) | apply Wk.nilv | apply Wk.last | apply Wk.drop), hlt, by omega⟩
  · repeat' (first
|(apply GC_seqK;intro K hK)
|(apply hK;clear hK K)
|(clear hK K;apply hK;clear hK K)
|(apply GC_region)
|(apply GL_nil)
|(apply thenG_normal)
|(apply thenG_exit)
|(apply blockG_hit)
|(apply GC_ret)
|(apply GC_exit)
|(apply GC_if_false;eq_refl)
|(apply retG1;eq_refl)
|(apply GL_on;eq_refl;eq_refl)
|(apply G_pv;eq_refl;first|exact trivial|omega)
|(apply G_field;eq_refl)
|(apply G_ld;eq_refl;(repeat first|exact In.here|apply In.there|apply In.skip);eq_refl)
|(apply G_cmpF;eq_refl;eq_refl;omega)
|(apply G_len;eq_refl))
    exact ⟨[], (by repeat first | exact Wk.nil | exact Wk.refl | (apply Wk.cons; (focus ((repeat first | exact Rem.here | apply Rem.there | apply Rem.skip); done))) | apply Wk.nilv | apply Wk.last | apply Wk.drop), rfl, rfl⟩
end SC
end Go.Proofs.YtbmngkdnebklpaaGreat
end
section
/- trestlebook: CopyTrace; runs of traces that read the same. -/
set_option linter.unusedVariables false
set_option linter.unusedSimpArgs false
namespace Go.Proofs.YtbmngkdnebklpaaGreat
namespace SC
open Go.Proofs
theorem map_snd_get {α β γ : Type} [Inhabited α] [Inhabited β] [Inhabited γ] {ps : List (α × β)} {qs : List (γ × β)} (h : ps.map (·.2) = qs.map (·.2)) (i : Nat) : (gt ps (i : Int)).2 = (gt qs (i : Int)).2 := by
  have hl := congrArg List.length h
  simp only [List.length_map] at hl
  by_cases hi : i < ps.length
  · exact gt_snd h hi
  · unfold gt
    simp only [Int.toNat_natCast]
    rw [List.getD_eq_getElem?_getD, List.getD_eq_getElem?_getD, List.getElem?_eq_none (by omega), List.getElem?_eq_none (by omega)]
    rfl
theorem TrcEq.fit {c : Circ} {t t' : Trc} (E : TrcEq t t') : fitsM c t = fitsM c t' := by
  have e3 := congrArg List.length E.rows
  simp only [List.length_map] at e3
  have e4 : ∀ (r : List (Hdl × List Bool)), (r.all fun p => decide (p.2.length = c.inputs.length)) = (r.map (·.2)).all fun l => decide (l.length = c.inputs.length) := fun r => by rw [List.all_map]; rfl
  unfold fitsM
  rw [E.init, E.loop, e3, e4, e4, E.rows]
theorem TrcEq.st {c : Circ} {t t' : Trc} (E : TrcEq t t') : ∀ k, stM c t k = stM c t' k
  | 0 => E.init
  | k + 1 => by unfold stM; rw [TrcEq.st E k, map_snd_get E.rows k]
theorem TrcEq.runE {c : Circ} {t t' : Trc} (E : TrcEq t t') : runE c t = runE c t' := by unfold SC.runE; rw [E.fit]
def rowE (p : Hdl × List Bool) : Mm := [.vec booc 1 4 p.1.1 p.1.2 p.2]
def CopyR (t : Trc) (v : Value) (N : Mm) : Prop := ∃ t' a' b', TrcEq t' t ∧ v = .agg (tcs t' a' b').toArray ∧ N = .vec booc 1 4 a'.1 a'.2 t'.init :: .vec encS 1 30 b'.1 b'.2 t'.rows :: fam rowE t'.rows
/-- A trace in memory of its own. -/
theorem TrcIn.own {Γ : Mm} {w w0 : World} {t t' : Trc} {a b a' b' : Hdl} (H : TrcIn w0 t a b) (E : TrcEq t' t) (h1 : In Γ (.vec booc 1 4 a'.1 a'.2 t'.init)) (h2 : In Γ (.vec encS 1 30 b'.1 b'.2 t'.rows)) (h3 : ∀ F ∈ fam rowE t'.rows, In Γ F) (M : Mem w Γ) : TrcIn w t' a' b' := by
  have e3 := congrArg List.length E.rows
  simp only [List.length_map] at e3
  have hp : ∀ p ∈ t'.rows, In Γ (.vec booc 1 4 p.1.1 p.1.2 p.2) := fun p hp => h3 _ (fam_mem hp (by unfold rowE; simp))
  refine ⟨h1.row M, h2.row M, fun p h => (hp p h).row M, fun h => h1.nil0 M h, fun h => h2.nil0 M h, fun p h hA => (hp p h).nil0 M hA, by rw [E.init]; exact H.li, by rw [e3]; exact H.lr, fun p h => ?_, by rw [E.loop]; exact H.lo⟩
  have : p.2 ∈ t.rows.map (·.2) := by rw [← E.rows]; exact List.mem_map.2 ⟨p, h, rfl⟩
  obtain ⟨q, hq, e⟩ := List.mem_map.1 this
  rw [← e]
  exact H.le q hq
attribute [local irreducible] WC WL WX WS WO OX Does DoesU Enters CV Pure thenQ blockQ retQ Wants retQC GC GL GS GX RdB thenG blockG retG Rd At gt CVN CVM
set_option maxRecDepth 100000
theorem copyTrace_cv {w : World} {t : Trc} {a b : Hdl} (H : TrcIn w t a b) : CVN Tryz.prog 7 [.agg (tcs t a b).toArray] w (CopyR t) := by
  have hI := H.init
  have hR := H.rows
  have hli := H.li
  have hlr := H.lr
  have hna := H.nila
  refine CVN.enterC (t := 33) 32 2 [] Tryz.func7 rfl rfl rfl (.inl rfl) rfl ?_
  repeat' (first
|(apply GC_seqK;intro K hK)
|(apply hK;clear hK K)
|(apply GC_block)
|(apply GC_region)
|(apply GL_nil)
|(apply thenG_normal)
|(apply GL_on;eq_refl;eq_refl)
|(refine GC_draws (id := 1) [.q 1, .q 2, .q 4, .q 5, .f 7, .c 0, .c 3, .q 6, .land, .c 8] mixed (by kernel_rfl) (by kernel_rfl) ?_)
|(apply GS_nil)
|(apply GS_qon;eq_refl;eq_refl;eq_refl;eq_refl)
|(apply GS_con;eq_refl;eq_refl;eq_refl;eq_refl)
|(apply GS_fl;eq_refl;infer_instance;eq_refl;eq_refl;eq_refl)
|(apply GS_land;simp only [landG];intros)
|(apply G_pv;eq_refl;first|exact trivial|omega)
|(apply G_field;eq_refl)
|(apply G_ld;eq_refl;(repeat first|exact In.here|apply In.there|apply In.skip);eq_refl)
|(apply G_alloc;eq_refl;intro _)
|(apply G_box;eq_refl;eq_refl;intro _)
|(apply G_stW;(first|exact wr_p|kernel_rfl);eq_refl;eq_refl;eq_refl;eq_refl;(repeat first|exact Upd.here|apply Upd.there|apply Upd.skip);eq_refl)
|(apply G_appP;eq_refl;eq_refl;(repeat first|exact Rem.here|apply Rem.there);(first|(apply Rd.own;(repeat first|exact In.here|apply In.there|apply In.skip);infer_instance)|(apply Rd.old;(repeat first|exact In.here|apply In.there|apply In.skip);assumption)|(apply Rd.oldR;(repeat first|exact In.here|apply In.there|apply In.skip);assumption)|exact Rd.nil|assumption);infer_instance;assumption;eq_refl;eq_refl;omega;decide;intro _ _)
|(apply GX_pure;apply build33_0_2 <;> eq_refl)
|(apply G_newP (fun b => .slice (some ⟨b, 0, none⟩) 0 0);(intro _;apply buildS30_0);intro _))
  rename_i b1 b2 b5 A0 c0 b3
  refine GC_loopK [1, 2, 3] (fun s : Nat × List (Hdl × List Bool) × Option Addr × Nat => [(4, nu s.1)])
    (fun s => .box b3 33 [.slice A0 t.init.length c0, .slice s.2.2.1 s.2.1.length s.2.2.2, nu t.loop] :: .vec encS 1 30 s.2.2.1 s.2.2.2 s.2.1 :: .vec booc 1 4 A0 c0 t.init :: .box b2 33 [.slice none 0 0, .slice none 0 0, .int .i64 0] :: .box b1 33 (tcs t a b) :: .old w none_ :: fam rowE s.2.1)
    (fun s => s.1 ≤ t.rows.length ∧ s.2.1.map (·.2) = (t.rows.map (·.2)).take s.1) (fun s => t.rows.length - s.1) (0, [], none, 0) (by repeat first | exact Pick.nil | (apply Pick.cons; eq_refl)) (by repeat first | exact trivial | refine ⟨rfl, ?_⟩) (by repeat first | exact Wk.nil | exact Wk.refl | (apply Wk.cons; (focus ((repeat first | exact Rem.here | apply Rem.there | apply Rem.skip); done))) | apply Wk.nilv | apply Wk.last | apply Wk.drop) ⟨Nat.zero_le _, rfl⟩ ?_
  rintro ⟨i, rs, B, kB⟩ ⟨hi, hrs⟩
  dsimp only at hi hrs ⊢
  have hl : rs.length = i := by have := congrArg List.length hrs; simp at this; omega
  rcases Nat.lt_or_ge i t.rows.length with hlt | hge
  · have hm := gt_mem (l := t.rows) (i := (i : Int)) (by omega) (by omega)
    have hle := H.le _ hm
    have hrow := H.each _ hm
    have hnil := H.nile _ hm
    repeat' (first
|(apply G_appP;eq_refl;eq_refl;(repeat first|exact Rem.here|apply Rem.there);(apply Rd.old;(repeat first|exact In.here|apply In.there|apply In.skip);exact hrow);infer_instance;exact hnil;eq_refl;eq_refl;omega;decide;intro A13 k13)
|(apply G_app;(first|exact wr_p|kernel_rfl);eq_refl;eq_refl;(intro A c;(repeat first|exact Upd.here|apply Upd.there|apply Upd.skip));infer_instance;(repeat first|exact In.here|apply In.there|apply In.skip);exact Dec.one ((A13, k13), (gt t.rows (i : Int)).2);eq_refl;eq_refl;eq_refl;(simp only [List.length_cons, List.length_nil];omega);decide;intro A14 k14)
|(apply GC_seqK;intro K hK)
|(apply hK;clear hK K)
|(apply GC_block)
|(apply GC_region)
|(apply GL_nil)
|(apply thenG_normal)
|(apply blockG_normal)
|(apply GC_skip)
|(apply GC_if_true;eq_refl)
|(apply GL_on;eq_refl;eq_refl)
|(refine GC_draws (id := 5) [.q 0, .q 1, .q 3, .q 4, .q 5, .q 6, .q 7, .c 2, .c 8, .c 9, .c 10, .q 11, .c 12] mixed (by kernel_rfl) (by kernel_rfl) ?_)
|(apply GS_nil)
|(apply GS_qon;eq_refl;eq_refl;eq_refl;eq_refl)
|(apply GS_con;eq_refl;eq_refl;eq_refl;eq_refl)
|(apply G_pv;eq_refl;first|exact trivial|omega)
|(apply G_field;eq_refl)
|(apply G_ld;eq_refl;(repeat first|exact In.here|apply In.there|apply In.skip);eq_refl)
|(apply G_rd;eq_refl;(first|(apply Rd.own;(repeat first|exact In.here|apply In.there|apply In.skip);infer_instance)|(apply Rd.old;(repeat first|exact In.here|apply In.there|apply In.skip);assumption)|(apply Rd.oldR;(repeat first|exact In.here|apply In.there|apply In.skip);assumption)|exact Rd.nil|assumption);(case ih => infer_instance);omega;omega;eq_refl)
|(apply G_cmpT;eq_refl;eq_refl;omega)
|(apply G_len;eq_refl)
|(apply G_ix;eq_refl;eq_refl;(first|(apply Rd.own;(repeat first|exact In.here|apply In.there|apply In.skip);infer_instance)|(apply Rd.old;(repeat first|exact In.here|apply In.there|apply In.skip);assumption)|(apply Rd.oldR;(repeat first|exact In.here|apply In.there|apply In.skip);assumption)|exact Rd.nil|assumption);(first|eq_refl|omega);omega;omega)
|(apply G_st;(first|exact wr_p|kernel_rfl);eq_refl;eq_refl;eq_refl;eq_refl;(repeat first|exact Upd.here|apply Upd.there|apply Upd.skip);(first|decide|exact Nat.le_of_ble_eq_true rfl))
|(apply G_newP (fun b => .slice (some ⟨b, 0, none⟩) 0 0);(intro _;apply buildS30_0);intro _)
|(apply G_new (fun b => .slice (some ⟨b, 0, none⟩) 1 1);eq_refl;(intro _;apply buildS31_1 <;> eq_refl);intro _))
    refine ⟨(i + 1, rs ++ [((A13, k13), (gt t.rows (i : Int)).2)], A14, k14), (by repeat first | exact trivial | refine ⟨rfl, ?_⟩), ?_, ⟨hlt, ?_⟩, by simp only; omega⟩
    · dsimp only
      rw [fam_snoc]
      exact (by repeat first | exact Wk.nil | exact Wk.refl | (apply Wk.cons; (focus ((repeat first | exact Rem.here | apply Rem.there | apply Rem.skip); done))) | apply Wk.nilv | apply Wk.last | apply Wk.drop)
    · dsimp only
      rw [List.map_append, hrs, List.take_succ_eq_append_getElem (by simpa using hlt), gt_nat hlt]
      simp
  · repeat' (first
|(apply GC_seqK;intro K hK)
|(apply hK;clear hK K)
|(clear hK K;apply hK;clear hK K)
|(apply GC_region)
|(apply GL_nil)
|(apply thenG_normal)
|(apply thenG_exit)
|(apply blockG_hit)
|(apply GC_ret)
|(apply GC_exit)
|(apply GC_if_false;eq_refl)
|(apply retGC0;eq_refl;(repeat first|exact In.here|apply In.there|apply In.skip);eq_refl)
|(apply GL_on;eq_refl;eq_refl)
|(apply G_pv;eq_refl;first|exact trivial|omega)
|(apply G_field;eq_refl)
|(apply G_ld;eq_refl;(repeat first|exact In.here|apply In.there|apply In.skip);eq_refl)
|(apply G_ldW;eq_refl;(repeat first|exact In.here|apply In.there|apply In.skip);eq_refl)
|(apply G_cmpF;eq_refl;eq_refl;omega)
|(apply G_len;eq_refl)
|(apply G_stW;(first|exact wr_p|kernel_rfl);eq_refl;eq_refl;eq_refl;eq_refl;(repeat first|exact Upd.here|apply Upd.there|apply Upd.skip);eq_refl))
    have e1 : rs.map (·.2) = t.rows.map (·.2) := by rw [hrs, List.take_of_length_le (by simp; omega)]
    exact ⟨_, (by repeat first | exact Wk.nil | exact Wk.refl | (apply Wk.cons; (focus ((repeat first | exact Rem.here | apply Rem.there | apply Rem.skip); done))) | apply Wk.nilv | apply Wk.last | apply Wk.drop), ⟨t.init, rs, t.loop⟩, (A0, c0), (B, kB), ⟨rfl, rfl, e1⟩, rfl, rfl⟩
end SC
end Go.Proofs.YtbmngkdnebklpaaGreat
end
section
/- Entries bound together; what runs answer. -/
set_option linter.unusedVariables false
set_option linter.unusedSimpArgs false
namespace Go.Proofs.YtbmngkdnebklpaaGreat
namespace SC
open Go.Proofs
/-- Entries as one. -/
def bun (Δ : Mm) : EntX where
  own := owns Δ
  ok := fun w => Mem w Δ
  lt := fun w M k hk => M.lt hk
  keep := fun w w' S M hc hn => M.chg hc hn
theorem In.bun {Γ Δ : Mm} {w : World} (h : In Γ (.any (bun Δ))) (M : Mem w Γ) : Mem w Δ := h.ok M
theorem CVN.bun {P : Program} {f : FuncId} {args : List Value} {w : World} {R : Value → Mm → Prop} (h : CVN P f args w R) : CVN P f args w fun v N => ∃ N', R v N' ∧ N = [.any (bun N')] :=
  CV.mono h fun v w' ⟨N, M, hR⟩ => ⟨[.any (SC.bun N)], Mem.join (.one M.left) M.right fun k ⟨E, hE, h1⟩ h2 => by
    simp only [List.mem_singleton] at hE
    subst hE
    exact M.sep k h1 h2, N, hR, rfl⟩
theorem Wk.left {Γ Δ : Mm} : Wk (Δ ++ Γ) Δ := ⟨fun w M => M.left, fun k hk => owns_append.2 (.inl hk)⟩
/-- A run's moments, bound together. -/
abbrev runB (ps : List (HMom × Mom)) (A : Option Addr) (k : Nat) : Mm := .vec encM 4 77 A k ps :: fam momE ps
theorem MomsIn.bun {Γ : Mm} {w : World} {A : Option Addr} {k : Nat} {ps : List (HMom × Mom)} (hi : In Γ (.any (bun (runB ps A k)))) (M : Mem w Γ) : MomsIn w A ps := MomsIn.of .here (fun E hE => .there (In.of hE)) (hi.bun M)
abbrev trcB (t : Trc) (a b : Hdl) : Mm := .vec booc 1 4 a.1 a.2 t.init :: .vec encS 1 30 b.1 b.2 t.rows :: fam rowE t.rows
theorem TrcIn.bun {Γ : Mm} {w w0 : World} {t t' : Trc} {a b a' b' : Hdl} (H : TrcIn w0 t a b) (E : TrcEq t' t) (hi : In Γ (.any (bun (trcB t' a' b')))) (M : Mem w Γ) : TrcIn w t' a' b' := H.own E .here (.there .here) (fun F hF => .there (.there (In.of hF))) (hi.bun M)
def RunR' (ε : Int) (m : List Mom) (v : Value) (N : Mm) : Prop := ∃ (ps : List (HMom × Mom)) (A : Option Addr) (k : Nat), v = .tuple #[.slice A ps.length k, nu ε] ∧ ps.map (·.2) = m ∧ N = runB ps A k
def RunB (ε : Int) (m : List Mom) (v : Value) (N : Mm) : Prop := ∃ (ps : List (HMom × Mom)) (A : Option Addr) (k : Nat), v = .tuple #[.slice A ps.length k, nu ε] ∧ ps.map (·.2) = m ∧ N = [.any (bun (runB ps A k))]
theorem RunR.to {P : Program} {f : FuncId} {args : List Value} {w : World} {c : Circ} {t : Trc} {ε : Int} {m : List Mom} (h : CVN P f args w (RunR c t)) (h1 : runE c t = ε) (h2 : runsM c t = m) : CVN P f args w (RunR' ε m) := by
  subst h1 h2
  exact h
theorem RunB.to {P : Program} {f : FuncId} {args : List Value} {w : World} {ε : Int} {m : List Mom} (h : CVN P f args w (RunR' ε m)) : CVN P f args w (RunB ε m) :=
  h.bun.mono fun v N ⟨N', ⟨ps, A, k, e1, e2, e3⟩, e4⟩ => ⟨ps, A, k, e1, e2, by rw [e4, e3]⟩
end SC
end Go.Proofs.YtbmngkdnebklpaaGreat
end
section
/- trestlelaw07: SimRuns: the walk. -/
set_option linter.unusedVariables false
set_option linter.unusedSimpArgs false
namespace Go.Proofs.YtbmngkdnebklpaaGreat
namespace SC
open Go.Proofs
theorem fam_cons {α : Type} (f : α → Mm) (l : List α) (a : α) : fam f (a :: l) = fam f l ++ f a := by unfold fam; simp
attribute [local irreducible] WC WL WX WS WO OX Does DoesU Enters CV Pure thenQ blockQ retQ Wants retQC GC GL GS GX RdB thenG blockG retG Rd At gt CVN CVM
attribute [local irreducible] fam bun
set_option maxRecDepth 100000
end SC
end Go.Proofs.YtbmngkdnebklpaaGreat
end
section
/- Traces that come in. -/
set_option linter.unusedVariables false
set_option linter.unusedSimpArgs false
namespace Go.Proofs.YtbmngkdnebklpaaGreat
namespace SC
open Go.Proofs
set_option maxRecDepth 100000
section
variable {H : Type} {enc : TypeId × Value → H} {W : World} {base : Nat} {spare : Nat → Bool} {held : Bool}
/-- A row of a trace that comes in. -/
theorem openTrowS {fuel : Nat} {cs : List Value} {x : DataW H × List MemPlace} (h : DataW.trod enc Tryz.prog W base spare held fuel 30 cs = some x) : ∃ y : Hdl × List Bool, encS y = cs ∧ (RowA W booc 1 y.1.1 y.2 ∧ (y.1.1 = none → y.1.2 = 0) ∧ ∀ R, (∀ n ∈ x.1.weights Tryz.prog 30, n ≤ R) → y.2.length ≤ R) := by
  obtain ⟨A, cp, l, rfl, r, z, w⟩ := openBoolsF h
  exact ⟨((A, cp), l), rfl, r, z, w⟩
end
end SC
end Go.Proofs.YtbmngkdnebklpaaGreat
end
section
/- A back part of a slice; numbers without a sign; a run from one of its states. -/
set_option linter.unusedVariables false
set_option linter.unusedSimpArgs false
namespace Go.Proofs.YtbmngkdnebklpaaGreat
namespace SC
open Go.Proofs
set_option maxRecDepth 100000
section
variable {n : Nat} {all : List Oper} {K : Env → Mm → Prop} {m : Md} {e : Env} {Γ : Mm} {d : Option Tmp} {ty t t' t0 : TypeId} {x y : Operand} {td : TypeDesc} {sz sz1 by_ by1 : Nat} {zv z1 : Value} {ag ag1 : Bool}
end
/-- The trace from a state on. -/
noncomputable def tail (c : Circ) (t : Trc) (i : Nat) : Trc := ⟨stM c t i, t.rows.drop i, -1⟩
end SC
end Go.Proofs.YtbmngkdnebklpaaGreat
end
section
/- trestleref03: Lit, Lits, Binary. -/
set_option linter.unusedVariables false
set_option linter.unusedSimpArgs false
namespace Go.Proofs.YtbmngkdnebklpaaGreat
namespace SC
open Go.Proofs
attribute [local irreducible] WC WL WX WS WO OX Does DoesU Enters CV Pure thenQ blockQ retQ Wants retQC GC GL GS GX RdB thenG blockG retG Rd At gt CVN CVM
set_option maxRecDepth 100000
end SC
end Go.Proofs.YtbmngkdnebklpaaGreat
end
section
/- The renumbering's map: what it gives to each variable of a right circuit. -/
set_option linter.unusedVariables false
set_option linter.unusedSimpArgs false
namespace Go.Proofs.YtbmngkdnebklpaaGreat
namespace SC
open Go.Proofs
section
variable {c : Circ} (R : Right c)
include R
end
end SC
end Go.Proofs.YtbmngkdnebklpaaGreat
end
section
/- Definitions that are apart pass; the renumbered circuit's definitions. -/
set_option linter.unusedVariables false
set_option linter.unusedSimpArgs false
namespace Go.Proofs.YtbmngkdnebklpaaGreat
namespace SC
open Go.Proofs
/-! ### the renumbered circuit -/
section
variable {c : Circ} (R : Right c)
/-- The circuit in the binary order; the map. -/
noncomputable abbrev renC (c : Circ) : Circ := renM c (ordM c)
noncomputable abbrev toM (c : Circ) : List Int := mapOf c.max (defsOf c (ordM c))
include R
end
end SC
end Go.Proofs.YtbmngkdnebklpaaGreat
end
section
/- The renumbered circuit is right. -/
set_option linter.unusedVariables false
set_option linter.unusedSimpArgs false
namespace Go.Proofs.YtbmngkdnebklpaaGreat
namespace SC
open Go.Proofs
section
variable {c : Circ} (R : Right c)
include R
end
end SC
end Go.Proofs.YtbmngkdnebklpaaGreat
end
section
/- The renumbered circuit's order; it looks right. -/
set_option linter.unusedVariables false
set_option linter.unusedSimpArgs false
namespace Go.Proofs.YtbmngkdnebklpaaGreat
namespace SC
open Go.Proofs
section
variable {c : Circ} (R : Right c)
include R
end
end SC
end Go.Proofs.YtbmngkdnebklpaaGreat
end
section
/- The renumbered circuit's values and runs. -/
set_option linter.unusedVariables false
set_option linter.unusedSimpArgs false
namespace Go.Proofs.YtbmngkdnebklpaaGreat
namespace SC
open Go.Proofs
section
variable {c : Circ}
end
section
variable {c : Circ} (R : Right c)
include R
end
end SC
end Go.Proofs.YtbmngkdnebklpaaGreat
end
section
/- Runs of the renumbered circuit. -/
set_option linter.unusedVariables false
set_option linter.unusedSimpArgs false
namespace Go.Proofs.YtbmngkdnebklpaaGreat
namespace SC
open Go.Proofs
section
variable {c : Circ} (R : Right c) (R' : Right (renC c))
include R R'
end
end SC
end Go.Proofs.YtbmngkdnebklpaaGreat
end
section
/- The binary order: a right circuit has it just if renumbering leaves it as it is. -/
set_option linter.unusedVariables false
set_option linter.unusedSimpArgs false
namespace Go.Proofs.YtbmngkdnebklpaaGreat
namespace SC
open Go.Proofs
section
variable {c : Circ} (R : Right c)
include R
end
end SC
end Go.Proofs.YtbmngkdnebklpaaGreat
end
section
/- shape: Renumber, by entries. -/
set_option linter.unusedVariables false
set_option linter.unusedSimpArgs false
namespace Go.Proofs.YtbmngkdnebklpaaGreat
namespace SC
open Go.Proofs
section
variable {c : Circ} (R : Right c)
include R
end
/-- A renumbered circuit of its own and its map, as one entry. -/
def renX (base : Nat) (c : Circ) (h js : Hd) (A : Option Addr) (k : Nat) : EntX where
  own := fun b => (∃ i, (cirRows (renC c) h js js (renC c).justice.length i).v.ownBlock = some b) ∨ (Value.slice A (toM c).length k).ownBlock = some b
  ok := fun w => CirOwn w base (renC c) h js ∧ w.ownsRow base 3 1 (.slice A (toM c).length k) (toM c).length ((toM c).flatMap icell)
  lt := fun w H b hb => by
    rcases hb with ⟨i, hi⟩ | hb
    · exact (Rows.lt H.1 hi).2
    · exact (World.ownsRow.lt H.2 b hb).2
  keep := fun w w' S H hc hn => ⟨Rows.chg H.1 hc fun i b hb => hn b (.inl ⟨i, hb⟩), own_chg H.2 hc fun b hb => hn b (.inr hb)⟩
attribute [local irreducible] WC WL WX WS WO OX Does DoesU Enters CV Pure thenQ blockQ retQ Wants retQC GC GL GS GX RdB thenG blockG retG Rd At gt CVN CVM
set_option maxRecDepth 100000
end SC
end Go.Proofs.YtbmngkdnebklpaaGreat
end
section
/- trestlelaw07: SimNumbers: the walk. -/
set_option linter.unusedVariables false
set_option linter.unusedSimpArgs false
namespace Go.Proofs.YtbmngkdnebklpaaGreat
namespace SC
open Go.Proofs
attribute [local irreducible] WC WL WX WS WO OX Does DoesU Enters CV Pure thenQ blockQ retQ Wants retQC GC GL GS GX RdB thenG blockG retG Rd At gt CVN CVM
attribute [local irreducible] fam bun renX
set_option maxRecDepth 100000
end SC
end Go.Proofs.YtbmngkdnebklpaaGreat
end
section
/- slices.Equal, slices.EqualFunc; shape's Same. -/
set_option linter.unusedVariables false
set_option linter.unusedSimpArgs false
namespace Go.Proofs.YtbmngkdnebklpaaGreat
namespace SC
open Go.Proofs
attribute [local irreducible] WC WL WX WS WO OX Does DoesU Enters CV Pure thenQ blockQ retQ Wants retQC
set_option maxRecDepth 100000
end SC
end Go.Proofs.YtbmngkdnebklpaaGreat
end
section
/- slices.EqualFunc at lists of lists; shape's Same. -/
set_option linter.unusedVariables false
set_option linter.unusedSimpArgs false
namespace Go.Proofs.YtbmngkdnebklpaaGreat
namespace SC
open Go.Proofs
attribute [local irreducible] WC WL WX WS WO OX Does DoesU Enters CV Pure thenQ blockQ retQ Wants retQC
set_option maxRecDepth 100000
end SC
end Go.Proofs.YtbmngkdnebklpaaGreat
end
section
/- trestlebook: SpoilCircuit. -/
set_option linter.unusedVariables false
set_option linter.unusedSimpArgs false
namespace Go.Proofs.YtbmngkdnebklpaaGreat
namespace SC
open Go.Proofs
attribute [local irreducible] WC WL WX WS WO OX Does DoesU Enters CV Pure thenQ blockQ retQ Wants retQC
set_option maxRecDepth 100000
end SC
end Go.Proofs.YtbmngkdnebklpaaGreat
end
section
/- IsBinary, of the reference and of shape. -/
set_option linter.unusedVariables false
set_option linter.unusedSimpArgs false
namespace Go.Proofs.YtbmngkdnebklpaaGreat
namespace SC
open Go.Proofs
attribute [local irreducible] WC WL WX WS WO OX Does DoesU Enters CV Pure thenQ blockQ retQ Wants retQC GC GL GS GX RdB thenG blockG retG Rd At gt CVN CVM
attribute [local irreducible] renX
set_option maxRecDepth 100000
end SC
end Go.Proofs.YtbmngkdnebklpaaGreat
end
section
/- The renumbered circuit has the binary order. -/
set_option linter.unusedVariables false
set_option linter.unusedSimpArgs false
namespace Go.Proofs.YtbmngkdnebklpaaGreat
namespace SC
open Go.Proofs
section
variable {c : Circ} (R : Right c)
include R
end
end SC
end Go.Proofs.YtbmngkdnebklpaaGreat
end
section
/- trestlelaw03: ShapeSettles: the walk. -/
set_option linter.unusedVariables false
set_option linter.unusedSimpArgs false
namespace Go.Proofs.YtbmngkdnebklpaaGreat
namespace SC
open Go.Proofs
attribute [local irreducible] WC WL WX WS WO OX Does DoesU Enters CV Pure thenQ blockQ retQ Wants retQC GC GL GS GX RdB thenG blockG retG Rd At gt CVN CVM
attribute [local irreducible] renX
set_option maxRecDepth 100000
end SC
end Go.Proofs.YtbmngkdnebklpaaGreat
end
section
/- trestlebook: CopyCircuit by entries; trestleref03: Renumber. -/
set_option linter.unusedVariables false
set_option linter.unusedSimpArgs false
namespace Go.Proofs.YtbmngkdnebklpaaGreat
namespace SC
open Go.Proofs
end SC
end Go.Proofs.YtbmngkdnebklpaaGreat
end
section
/- General words: clauses in memory, families bound together, regions whose changes are kept apart. (Collected out of N1, N2, N9, N11, N37, N39, N40, N41 for seats without their functions.) -/
set_option linter.unusedVariables false
set_option linter.unusedSimpArgs false
namespace Go.Proofs.YtbmngkdnebklpaaGreat
namespace SC
open Go.Proofs
theorem does_neg {P : Program} {e : Env} {x : Operand} {t ty : TypeId} {w : World} {a : Int} (h : ev e x = some (.int .i64 a)) (h2 : -9223372036854775808 ≤ -a) (h3 : -a ≤ 9223372036854775807) : Does P (.unOp .neg t x) ty e w (.int .i64 (-a)) w := by
  intro ρ dst pos af g hρ
  have h0 := wrap64_id h2 h3
  simp [execOp, hρ _ _ h, Op.unary, Op.intArith, h0]
theorem G_neg {P : Program} {n : Nat} {all : List Oper} {K : Env → Mm → Prop} {m : Md} {e : Env} {Γ : Mm} {d : Option Tmp} {ty t : TypeId} {x : Operand} {a : Int} (h : ev e x = some (.int .i64 a)) (h2 : -9223372036854775808 ≤ -a) (h3 : -a ≤ 9223372036854775807) (hr : GN P n all K m (push d (nu (-a)) e) Γ) : GX P n all K m d (.unOp .neg t x) ty e Γ := GX_pure (fun _ => does_neg h h2 h3) hr
def rowJ (p : Hdl × List Int) : Mm := [.vec icell 1 3 p.1.1 p.1.2 p.2]
theorem Wk.one {E : Ent} {Γ : Mm} : Wk (E :: Γ) [E] := Wk.cons .here .nil
theorem Wk.there {Γ Γ' : Mm} (h : Wk Γ Γ') : Wk Γ ([] ++ Γ') := h
theorem Upd.left {Θ Θ' Γ : Mm} {E F : Ent} (h : Upd Θ E F Θ') : Upd (Θ ++ Γ) E F (Θ' ++ Γ) := by
  induction h with
  | here => exact .here
  | there _ ih => exact .there ih
section
variable {P : Program} {n : Nat} {all : List Oper} {K : Env → Mm → Prop} {A : List Fl} {Θ Θ' C : Mm} {r : List PStep} {e : Env} {Γ Γ' : Mm} {j : Nat} {d : Option Tmp} {ty t t0 : TypeId} {x y : Operand}
/-- What was kept apart comes back. -/
theorem GS_nilP (h : K e (Θ ++ Γ)) : GS P n all K [] Θ [] e Γ := by
  intro B a Q fuel listed w hB ha hs M hQ hp hns hsz hsh hF hok
  obtain rfl : B = [] := by simpa using hB
  simp only [planM, Bool.and_eq_true, List.isEmpty_iff] at hok
  obtain rfl := Nat.eq_of_beq_eq_true hok.2
  exact ⟨hok.1.2, hQ a w e (Θ ++ Γ) ha (show Mem w (Θ ++ Γ) from M) h⟩
/-- Entries kept apart: no quiet operation looks at them. -/
theorem GC_drawsP {id : Nat} {l : List Oper} {Q : PostG} (pl : List PStep) (hm : P.follows .mixedOrders = true) (hns : Region.noSelect l.toArray = true) (hok : planM l.toArray pl l.toArray.size (Array.replicate l.toArray.size false) [] = true) (hC : Rems Γ C Γ')
    (h : GS P n l (fun e Γ => Q .normal e Γ) [] C pl e Γ') : GC P n (.region id l.toArray true) Q e Γ := fun w M a ha =>
  wp_region_any hm (wpAny_of_M _ _ _ _ _ (h [] a _ _ _ _ rfl ha (fun _ _ h => (by cases h)) (show Mem w.drew (C ++ Γ') from Mem.takes hC M.drew) (fun a' w' e' Γ' ha' M' hK => ⟨e', ha', Γ', M', hK⟩) lift_panic hns (by simp) (Shut.init _ _ _) ⟨fun _ h => (by cases h), List.Pairwise.nil, List.Pairwise.nil⟩ hok))
end
def rowL (p : Hdl × List Int) : Ent := .vec icell 1 3 p.1.1 p.1.2 p.2
theorem flat_row : ∀ ps : List (Hdl × List Int), ps.flatMap rowJ = ps.map rowL
  | [] => rfl
  | a :: r => by rw [List.flatMap_cons, flat_row r]; rfl
theorem fam_perm (ps : List (Hdl × List Int)) : (ps.map rowL).Perm (fam rowJ ps) := by
  have : fam rowJ ps = (ps.map rowL).reverse := by
    unfold fam
    rw [← List.map_reverse]
    exact flat_row _
  rw [this]
  exact (List.reverse_perm _).symm
section
variable {P : Program} {n : Nat} {all : List Oper} {K : Env → Mm → Prop} {m : Md} {e : Env} {Γ Γ' Γ1 Γ2 Θ : Mm} {d : Option Tmp} {ty t t0 : TypeId} {x y : Operand} {c : Code} {Q : PostG} {td : TypeDesc} {sz by_ : Nat} {zv : Value} {ag : Bool}
theorem Wk.part {C D : Mm} (hR : Rems Γ C Γ1) (h : Wk C D) (h2 : Wk Γ1 Γ') : Wk Γ (D ++ Γ') := by
  refine ⟨fun w M => ?_, fun k hk => ?_⟩
  · have M1 := M.perm hR.perm
    exact (h.mem w M1.left).join (h2.mem w M1.right) fun k k1 k2 => M1.sep k (h.sub k k1) (h2.sub k k2)
  · rw [owns_perm hR.perm, owns_append]
    exact (owns_append.1 hk).imp (h.sub k) (h2.sub k)
theorem bun_in {D : Mm} : Wk D [.any (bun D)] := ⟨fun w M => Mem.one (E := .any (bun D)) M, fun k hk => (owns_cons.1 hk).elim id fun h => absurd h owns_nil⟩
theorem bun_out {D : Mm} : Wk [.any (bun D)] D := ⟨fun w M => M.head, fun k hk => owns_cons.2 (.inl hk)⟩
theorem fam_mid (a b : List (Hdl × List Int)) (x : Hdl × List Int) : (fam rowJ (a ++ x :: b)).Perm (rowL x :: fam rowJ (a ++ b)) := by
  refine (fam_perm _).symm.trans ?_
  rw [List.map_append, List.map_cons]
  refine List.perm_middle.trans ((List.Perm.cons _) ?_)
  rw [← List.map_append]
  exact fam_perm _
theorem row_in (a b : List (Hdl × List Int)) (x : Hdl × List Int) : Wk [rowL x, .any (bun (fam rowJ (a ++ b)))] [.any (bun (fam rowJ (a ++ x :: b)))] :=
  (Wk.cons .here bun_out).trans ((Wk.perm (fam_mid a b x).symm).trans bun_in)
end
theorem Wk.app {C D Γ : Mm} (h : Wk C D) : Wk (C ++ Γ) (D ++ Γ) := ⟨fun w M => (h.mem w M.left).join M.right fun k k1 k2 => M.sep k (h.sub k k1) k2, fun k hk => owns_append.2 ((owns_append.1 hk).imp (h.sub k) id)⟩
theorem CVN.wk {P : Program} {f : FuncId} {args : List Value} {w : World} {R R' : Value → Mm → Prop} (h : CVN P f args w R) (hR : ∀ v N, R v N → ∃ N', Wk N N' ∧ R' v N') : CVN P f args w R' :=
  CV.mono h fun v w' ⟨N, M, hv⟩ => by
    obtain ⟨N', h1, h2⟩ := hR v N hv
    exact ⟨N', h1.app.mem w' M, h2⟩
section
variable {P : Program} {e : Env} {w : World} {t : TypeId} {td : TypeDesc} {sz by_ : Nat} {zv : Value}
theorem results_ofC1 {fn : Func} {n : Nat} {a : Act} {ta r1 : Nat} [T : Ty P t td sz zv by_ true] (ha : Agree n e a) (hr : fn.results = (.cell ta t :: [ResultVar.tmp r1]).toArray) {p : Addr} {cs : List Value} {v1 : Value} (h0 : look e ta = some (.pointer (some p)))
    (hc : ∀ j u, cs[j]? = some u → w.cell? (p.add j) = some u) (hs : cs.length = sz) (h : look e r1 = some v1) : (results fn a.tmps).run P w = .ok (retVal [.agg cs.toArray, v1]) w := by
  have ht : ∀ t v, look e t = some v → a.tmps[t]? = some v := ha.tmps
  have hr0 := run_loadCells_list (P := P) w p cs hc
  subst hs
  simp [results, hr, retVal, ht _ _ h0, ht _ _ h, asAddr, loadVar, T.agg, T.size, hr0, Result.andThen]
end
def retGC1 (a sz r1 : Nat) (R : Value → Mm → Prop) : PostG
  | .ret, e, Γ => ∃ b t cs v, look e a = some (.pointer (some ⟨b, 0, none⟩)) ∧ In Γ (.box b t cs) ∧ cs.length = sz ∧ look e r1 = some v ∧ R (.tuple #[.agg cs.toArray, v]) Γ
  | .normal, e, Γ => ∃ b t cs v, look e a = some (.pointer (some ⟨b, 0, none⟩)) ∧ In Γ (.box b t cs) ∧ cs.length = sz ∧ look e r1 = some v ∧ R (.tuple #[.agg cs.toArray, v]) Γ
  | _, _, _ => False
theorem CVN.enterC1 {P : Program} {f : FuncId} {args : List Value} {w : World} {R : Value → Mm → Prop} {t : TypeId} {td : TypeDesc} {sz by_ : Nat} {zv : Value} {fn : Func} {c : Code} (n a r1 : Nat) [T : Ty P t td sz zv by_ true] (hf : P.funcs[f]? = some fn) (hb : fn.body = some c)
    (hn : fn.ntmps = n) (hr : fn.results = (.cell a t :: [ResultVar.tmp r1]).toArray) (hs : Nat.ble args.length n = true) (h : GC P n c (retGC1 a sz r1 fun v Γ => ∃ N, Wk Γ (N ++ [.old w none_]) ∧ R v N) (argEnv args 0) [.old w none_]) : CVN P f args w R := by
  refine calls_of_wp hf hb ?_
  have hA : Agree n (argEnv args 0) { tmps := args.toArray ++ Array.replicate (fn.ntmps - args.toArray.size) undef, defers := [] } := by
    have hs' := Nat.le_of_ble_eq_true hs
    refine ⟨by simp [hn]; omega, rfl, fun t v hv => ?_⟩
    obtain ⟨_, h2⟩ := argEnv_look args 0 t v hv
    have hlt : t < args.length := (List.getElem?_eq_some_iff.1 h2).1
    rw [Array.getElem?_append_left (by simpa using hlt)]
    simpa using h2
  have key : ∀ (a' : Act) (w' : World) (e : Env) (Γ : Mm), Agree n e a' → Mem w' Γ → (∃ b t' cs v, look e a = some (.pointer (some ⟨b, 0, none⟩)) ∧ In Γ (.box b t' cs) ∧ cs.length = sz ∧ look e r1 = some v ∧ ∃ N, Wk Γ (N ++ [.old w none_]) ∧ R (.tuple #[.agg cs.toArray, v]) N) → a'.defers = [] ∧ ∃ v, (results fn a'.tmps).run P w' = .ok v w' ∧ ∃ N, Mem w' (N ++ [.old w none_]) ∧ R v N := by
    intro a' w' e Γ ha M ⟨b, t', cs, v, h0, hi, hz, h1, N, h2, h3⟩
    refine ⟨ha.defers, _, results_ofC1 (T := T) ha hr h0 (fun j u hj => ?_) hz h1, N, h2.mem w' M, h3⟩
    rw [add_at, Nat.zero_add, (show Blk w' b t' cs from hi.ok M).cell]
    exact hj
  refine wp_mono (h w (Mem.start w) _ hA) ?_
  intro s a' w' hq
  cases s with
  | normal => obtain ⟨e, ha, Γ, M, h⟩ := hq; exact key a' w' e Γ ha M h
  | ret => obtain ⟨e, ha, Γ, M, h⟩ := hq; exact key a' w' e Γ ha M h
  | exit i => obtain ⟨e, _, Γ, M, h⟩ := hq; exact h
  | goto l => obtain ⟨e, _, Γ, M, h⟩ := hq; exact h
  | panic c => exact hq.elim
  | outgrown => exact hq.elim
theorem retGC1r {R : Value → Mm → Prop} {e : Env} {Γ : Mm} {a sz b r1 : Nat} {v : Value} {t : TypeId} {cs : List Value} (h : look e a = some (.pointer (some ⟨b, 0, none⟩))) (hi : In Γ (.box b t cs)) (hl : cs.length = sz) (h1 : look e r1 = some v) (hr : R (.tuple #[.agg cs.toArray, v]) Γ) : retGC1 a sz r1 R .ret e Γ := ⟨b, t, cs, v, h, hi, hl, h1, hr⟩
end SC
end Go.Proofs.YtbmngkdnebklpaaGreat
end
section
/- trestlebook: SameCnf, SpoilCnf; lists of numbers lent. -/
set_option linter.unusedVariables false
set_option linter.unusedSimpArgs false
namespace Go.Proofs.YtbmngkdnebklpaaGreat
namespace SC
open Go.Proofs
attribute [local irreducible] WC WL WX WS WO OX Does DoesU Enters CV Pure thenQ blockQ retQ Wants retQC GC GL GS GX RdB thenG blockG retG Rd At gt CVN CVM
set_option maxRecDepth 100000
end SC
end Go.Proofs.YtbmngkdnebklpaaGreat
end
section
/- frames: literals at a step, the clauses of a step, of what comes next, of the resets, of a run: plain words. -/
set_option linter.unusedVariables false
set_option linter.unusedSimpArgs false
namespace Go.Proofs.YtbmngkdnebklpaaGreat
namespace SC
open Go.Proofs
/-- A circuit's literal at a step. -/
def atM (mx l t : Int) : Int := if l % 2 = 1 then -(if 0 < l / 2 then 1 + t * mx + l / 2 else 1) else if 0 < l / 2 then 1 + t * mx + l / 2 else 1
def gateS (mx t : Int) (x : Tri) : List (List Int) := [[-atM mx x.1 t, atM mx x.2.1 t], [-atM mx x.1 t, atM mx x.2.2 t], [atM mx x.1 t, -atM mx x.2.1 t, -atM mx x.2.2 t]]
def nxtS (mx t : Int) (x : Tri) : List (List Int) := [[-atM mx x.1 (t + 1), atM mx x.2.1 t], [atM mx x.1 (t + 1), -atM mx x.2.1 t]]
def rstS (mx : Int) (x : Tri) : List (List Int) := if x.2.2 = 0 then [[-atM mx x.1 0]] else if x.2.2 = 1 then [[atM mx x.1 0]] else []
def gatesS (c : Circ) (t : Int) : List (List Int) := c.ands.flatMap (gateS c.max t)
def consS (c : Circ) (t : Int) : List (List Int) := c.constraints.map fun l => [atM c.max l t]
def stepS (c : Circ) (t : Int) : List (List Int) := gatesS c t ++ consS c t
def nextS (c : Circ) (t : Int) : List (List Int) := c.latches.flatMap (nxtS c.max t)
def firstS (c : Circ) : List (List Int) := c.latches.flatMap (rstS c.max)
/-- The formula of n + 1 steps. -/
def runS (c : Circ) : Nat → List (List Int)
  | 0 => [-1] :: firstS c ++ stepS c 0
  | n + 1 => runS c n ++ nextS c (n : Int) ++ stepS c ((n : Int) + 1)
theorem atM_le {mx l t : Int} (h0 : 0 ≤ l) (h1 : l ≤ 40000) (h2 : 0 ≤ t * mx) (h3 : t * mx ≤ 10000000) : -10050000 ≤ atM mx l t ∧ atM mx l t ≤ 10050000 := by
  unfold atM
  generalize t * mx = z at *
  split <;> split <;> omega
theorem mul_le {t mx : Int} (h0 : 0 ≤ t) (h1 : t ≤ 600) (h2 : 0 ≤ mx) (h3 : mx ≤ 16384) : 0 ≤ t * mx ∧ t * mx ≤ 10000000 := by
  refine ⟨Int.mul_nonneg h0 h2, ?_⟩
  have := Int.mul_le_mul h1 h3 h2 (by decide : (0 : Int) ≤ 600)
  omega
theorem flat_snoc {α β : Type} [Inhabited α] {f : α → List β} {l : List α} {i : Nat} (h : i < l.length) : (l.take (i + 1)).flatMap f = (l.take i).flatMap f ++ f (gt l (i : Int)) := by
  rw [List.take_succ_eq_append_getElem h, List.flatMap_append, gt_nat h]
  simp
theorem gateS_len {mx t : Int} {x : Tri} : (gateS mx t x).length = 3 := rfl
theorem nxtS_len {mx t : Int} {x : Tri} : (nxtS mx t x).length = 2 := rfl
theorem rstS_len {mx : Int} {x : Tri} : (rstS mx x).length ≤ 1 := by
  unfold rstS
  split
  · exact Nat.le_refl 1
  · split
    · exact Nat.le_refl 1
    · exact Nat.zero_le _
theorem flat_le {α β : Type} {f : α → List β} {k : Nat} (h : ∀ a, (f a).length ≤ k) : ∀ l : List α, (l.flatMap f).length ≤ k * l.length
  | [] => Nat.zero_le _
  | a :: r => by
    have := flat_le h r
    have := h a
    rw [List.flatMap_cons, List.length_append, List.length_cons, Nat.mul_succ]
    omega
theorem flat_eq {α β : Type} {f : α → List β} {k : Nat} (h : ∀ a, (f a).length = k) : ∀ l : List α, (l.flatMap f).length = k * l.length
  | [] => rfl
  | a :: r => by
    have := flat_eq h r
    have := h a
    rw [List.flatMap_cons, List.length_append, List.length_cons, Nat.mul_succ]
    omega
theorem gatesS_len (c : Circ) (t : Int) : (gatesS c t).length = 3 * c.ands.length := flat_eq (fun _ => gateS_len) _
theorem nextS_len (c : Circ) (t : Int) : (nextS c t).length = 2 * c.latches.length := flat_eq (fun _ => nxtS_len) _
theorem firstS_len (c : Circ) : (firstS c).length ≤ c.latches.length := by have := flat_le (fun x => rstS_len (mx := c.max) (x := x)) c.latches; unfold firstS; omega
theorem consS_len (c : Circ) (t : Int) : (consS c t).length = c.constraints.length := List.length_map _
theorem stepS_len (c : Circ) (t : Int) : (stepS c t).length = 3 * c.ands.length + c.constraints.length := by unfold stepS; rw [List.length_append, gatesS_len, consS_len]
theorem runS_len (c : Circ) : ∀ n : Nat, (runS c n).length = 1 + (firstS c).length + (n + 1) * (3 * c.ands.length + c.constraints.length) + n * (2 * c.latches.length)
  | 0 => by
    show ([-1] :: firstS c ++ stepS c 0).length = _
    rw [List.length_append, List.length_cons, stepS_len]
    omega
  | n + 1 => by
    show (runS c n ++ nextS c (n : Int) ++ stepS c ((n : Int) + 1)).length = _
    rw [List.length_append, List.length_append, runS_len c n, nextS_len, stepS_len, Nat.succ_mul (n + 1), Nat.succ_mul n (2 * c.latches.length)]
    omega
/-- What is wrong with a step of that number, so many steps asked for. -/
noncomputable def ftE (c : Circ) (t most n : Int) : Int := if (lookM c).2 ≠ 0 then (lookM c).2 else if t < 0 ∨ most < t then 1 else if 262144 < 1 + n * c.max then 6 else 0
/-- What is wrong with so many steps. -/
noncomputable def vrE (c : Circ) (n : Int) : Int := if (lookM c).2 ≠ 0 then (lookM c).2 else if n < 1 ∨ 512 < n then 1 else if 262144 < 1 + n * c.max then 6 else 0
end SC
end Go.Proofs.YtbmngkdnebklpaaGreat
end
section
/- Clauses in memory, their rows bound together. -/
set_option linter.unusedVariables false
set_option linter.unusedSimpArgs false
namespace Go.Proofs.YtbmngkdnebklpaaGreat
namespace SC
open Go.Proofs
def CliR (m : List (List Int)) (v : Value) (N : Mm) : Prop := ∃ ps A k, v = .slice A ps.length k ∧ ps.map (·.2) = m ∧ N = [.vec encS 1 60 A k ps, .any (bun (fam rowJ ps))]
section
variable {Γ Γ' Γ1 Γ2 : Mm}
theorem row_snoc (ps : List (Hdl × List Int)) (x : Hdl × List Int) : Wk [rowL x, .any (bun (fam rowJ ps))] [.any (bun (fam rowJ (ps ++ [x])))] := by
  have := row_in ps [] x
  rw [List.append_nil] at this
  exact this
theorem rows_app (ps qs : List (Hdl × List Int)) : Wk [.any (bun (fam rowJ ps)), .any (bun (fam rowJ qs))] [.any (bun (fam rowJ (ps ++ qs)))] := by
  rw [fam_app]
  refine Wk.trans ?_ bun_in
  refine Wk.trans (Wk.part (C := [.any (bun (fam rowJ qs))]) (Γ1 := [.any (bun (fam rowJ ps))]) (Rems.cons (.there .here) .nil) bun_out bun_out) ?_
  exact .refl
theorem rows_nil : Wk Γ Γ' → Wk Γ (.any (bun (fam rowJ [])) :: Γ') := fun h => ⟨fun w M => (h.mem w M).cons (E := .any (bun (fam rowJ []))) Mem.nil fun k hk => absurd hk owns_nil, fun k hk => by
  rcases owns_cons.1 hk with h1 | h1
  · exact absurd h1 owns_nil
  · exact h.sub k h1⟩
theorem Wk.rows {ps qs : List (Hdl × List Int)} (h1 : Rem Γ (.any (bun (fam rowJ ps))) Γ1) (h2 : Rem Γ1 (.any (bun (fam rowJ qs))) Γ2) (h : Wk Γ2 Γ') : Wk Γ (.any (bun (fam rowJ (ps ++ qs))) :: Γ') :=
  Wk.part (C := [.any (bun (fam rowJ ps)), .any (bun (fam rowJ qs))]) (D := [.any (bun (fam rowJ (ps ++ qs)))]) (Rems.cons h1 (Rems.cons h2 .nil)) (rows_app ps qs) h
theorem Wk.add1 {ps : List (Hdl × List Int)} {b k : Nat} {l : List Int} (h0 : Rem Γ (.any (bun (fam rowJ ps))) Γ1) (h1 : Rem Γ1 (.box b 3 (l.flatMap icell)) Γ2) (hk : k = l.length) (hl : l.length ≤ 1000) (h : Wk Γ2 Γ') : Wk Γ (.any (bun (fam rowJ (ps ++ [((some ⟨b, 0, none⟩, k), l)]))) :: Γ') := by
  subst hk
  have e : Wk [.box b 3 (l.flatMap icell)] [rowL ((some ⟨b, 0, none⟩, l.length), l)] := Wk.vec rfl (by unfold maxLen; omega)
  refine Wk.part (C := [.any (bun (fam rowJ ps)), .box b 3 (l.flatMap icell)]) (D := [.any (bun (fam rowJ (ps ++ [((some ⟨b, 0, none⟩, l.length), l)])))]) (Rems.cons h0 (Rems.cons h1 .nil)) ?_ h
  refine Wk.trans ?_ (row_snoc ps ((some ⟨b, 0, none⟩, l.length), l))
  refine (Wk.perm (List.Perm.swap ..)).trans ?_
  exact Wk.part (C := [.box b 3 (l.flatMap icell)]) (D := [rowL ((some ⟨b, 0, none⟩, l.length), l)]) (.cons .here .nil) e .refl
theorem Wk.add2 {Γ3 : Mm} {ps : List (Hdl × List Int)} {b b2 k k2 : Nat} {l l2 : List Int} (h0 : Rem Γ (.any (bun (fam rowJ ps))) Γ1) (h1 : Rem Γ1 (.box b 3 (l.flatMap icell)) Γ2) (h2 : Rem Γ2 (.box b2 3 (l2.flatMap icell)) Γ3) (hk : k = l.length) (hk2 : k2 = l2.length) (hl : l.length ≤ 1000) (hl2 : l2.length ≤ 1000) (h : Wk Γ3 Γ') : Wk Γ (.any (bun (fam rowJ (ps ++ [((some ⟨b, 0, none⟩, k), l), ((some ⟨b2, 0, none⟩, k2), l2)]))) :: Γ') := by
  rw [show ps ++ [((some ⟨b, 0, none⟩, k), l), ((some ⟨b2, 0, none⟩, k2), l2)] = (ps ++ [((some ⟨b, 0, none⟩, k), l)]) ++ [((some ⟨b2, 0, none⟩, k2), l2)] by simp]
  exact (Wk.add1 h0 h1 hk hl .refl).trans (Wk.add1 .here h2 hk2 hl2 h)
theorem Wk.add3 {Γ3 Γ4 : Mm} {ps : List (Hdl × List Int)} {b b2 b3 k k2 k3 : Nat} {l l2 l3 : List Int} (h0 : Rem Γ (.any (bun (fam rowJ ps))) Γ1) (h1 : Rem Γ1 (.box b 3 (l.flatMap icell)) Γ2) (h2 : Rem Γ2 (.box b2 3 (l2.flatMap icell)) Γ3) (h3 : Rem Γ3 (.box b3 3 (l3.flatMap icell)) Γ4) (hk : k = l.length) (hk2 : k2 = l2.length) (hk3 : k3 = l3.length) (hl : l.length ≤ 1000) (hl2 : l2.length ≤ 1000) (hl3 : l3.length ≤ 1000) (h : Wk Γ4 Γ') : Wk Γ (.any (bun (fam rowJ (ps ++ [((some ⟨b, 0, none⟩, k), l), ((some ⟨b2, 0, none⟩, k2), l2), ((some ⟨b3, 0, none⟩, k3), l3)]))) :: Γ') := by
  rw [show ps ++ [((some ⟨b, 0, none⟩, k), l), ((some ⟨b2, 0, none⟩, k2), l2), ((some ⟨b3, 0, none⟩, k3), l3)] = (ps ++ [((some ⟨b, 0, none⟩, k), l), ((some ⟨b2, 0, none⟩, k2), l2)]) ++ [((some ⟨b3, 0, none⟩, k3), l3)] by simp]
  exact (Wk.add2 h0 h1 h2 hk hk2 hl hl2 .refl).trans (Wk.add1 .here h3 hk3 hl3 h)
end
end SC
end Go.Proofs.YtbmngkdnebklpaaGreat
end
section
/- frames: literals, gates, constraints, next, first, step: the walks. -/
set_option linter.unusedVariables false
set_option linter.unusedSimpArgs false
namespace Go.Proofs.YtbmngkdnebklpaaGreat
namespace SC
open Go.Proofs
attribute [local irreducible] WC WL WX WS WO OX Does DoesU Enters CV Pure thenQ blockQ retQ Wants retQC GC GL GS GX RdB thenG blockG retG Rd At gt CVN CVM
set_option maxRecDepth 100000
theorem at_cv {w : World} {c : Circ} {h : Hd} {l t : Int} (h0 : 0 ≤ l) (h1 : l ≤ 40000) (h2 : 0 ≤ t * c.max) (h3 : t * c.max ≤ 10000000) : CVN Tryz.prog 22 [.agg (ccells c h).toArray, nu l, nu t] w fun v N => N = [] ∧ v = nu (atM c.max l t) := by
  refine CVN.enter 25 [6] Tryz.func22 rfl rfl rfl (by decide) rfl ?_
  by_cases hb : l % 2 = 1
  · by_cases hv : 0 < l / 2
    · have e : atM c.max l t = -(1 + t * c.max + l / 2) := by unfold atM; rw [if_pos hb, if_pos hv]
      rw [e]
      repeat' (first
|(apply GC_seqK;intro K hK)
|(apply hK;clear hK K)
|(apply GC_region)
|(apply GL_nil)
|(apply thenG_normal)
|(apply thenG_ret)
|(apply GC_ret)
|(apply GC_if_true;eq_refl)
|(apply retG1;eq_refl)
|(apply GL_on;eq_refl;eq_refl)
|(apply G_pv;eq_refl;first|exact trivial|omega)
|(apply G_field;eq_refl)
|(apply G_ld;eq_refl;(repeat first|exact In.here|apply In.there|apply In.skip);eq_refl)
|(apply G_cmpT;eq_refl;eq_refl;omega)
|(apply G_neg;eq_refl;omega;omega)
|(apply G_box;eq_refl;eq_refl;intro _))
      exact ⟨[], (by repeat first | exact Wk.nil | exact Wk.refl | (apply Wk.cons; (focus ((repeat first | exact Rem.here | apply Rem.there | apply Rem.skip); done))) | apply Wk.nilv | apply Wk.last | apply Wk.drop), rfl, rfl⟩
    · have e : atM c.max l t = -1 := by unfold atM; rw [if_pos hb, if_neg hv]
      rw [e]
      repeat' (first
|(apply GC_seqK;intro K hK)
|(apply hK;clear hK K)
|(apply GC_region)
|(apply GL_nil)
|(apply thenG_normal)
|(apply thenG_ret)
|(apply GC_ret)
|(apply GC_skip)
|(apply GC_if_true;eq_refl)
|(apply GC_if_false;eq_refl)
|(apply retG1;eq_refl)
|(apply GL_on;eq_refl;eq_refl)
|(apply G_pv;eq_refl;first|exact trivial|omega)
|(apply G_cmpT;eq_refl;eq_refl;omega)
|(apply G_cmpF;eq_refl;eq_refl;omega)
|(apply G_neg;eq_refl;omega;omega)
|(apply G_box;eq_refl;eq_refl;intro _))
      exact ⟨[], (by repeat first | exact Wk.nil | exact Wk.refl | (apply Wk.cons; (focus ((repeat first | exact Rem.here | apply Rem.there | apply Rem.skip); done))) | apply Wk.nilv | apply Wk.last | apply Wk.drop), rfl, rfl⟩
  · by_cases hv : 0 < l / 2
    · have e : atM c.max l t = 1 + t * c.max + l / 2 := by unfold atM; rw [if_neg hb, if_pos hv]
      rw [e]
      repeat' (first
|(apply GC_seqK;intro K hK)
|(apply hK;clear hK K)
|(apply GC_region)
|(apply GL_nil)
|(apply thenG_normal)
|(apply GC_ret)
|(apply GC_skip)
|(apply GC_if_true;eq_refl)
|(apply GC_if_false;eq_refl)
|(apply retG1;eq_refl)
|(apply GL_on;eq_refl;eq_refl)
|(apply G_pv;eq_refl;first|exact trivial|omega)
|(apply G_field;eq_refl)
|(apply G_ld;eq_refl;(repeat first|exact In.here|apply In.there|apply In.skip);eq_refl)
|(apply G_cmpT;eq_refl;eq_refl;omega)
|(apply G_cmpF;eq_refl;eq_refl;omega)
|(apply G_box;eq_refl;eq_refl;intro _))
      exact ⟨[], (by repeat first | exact Wk.nil | exact Wk.refl | (apply Wk.cons; (focus ((repeat first | exact Rem.here | apply Rem.there | apply Rem.skip); done))) | apply Wk.nilv | apply Wk.last | apply Wk.drop), rfl, rfl⟩
    · have e : atM c.max l t = 1 := by unfold atM; rw [if_neg hb, if_neg hv]
      rw [e]
      repeat' (first
|(apply GC_seqK;intro K hK)
|(apply hK;clear hK K)
|(apply GC_region)
|(apply GL_nil)
|(apply thenG_normal)
|(apply GC_ret)
|(apply GC_skip)
|(apply GC_if_false;eq_refl)
|(apply retG1;eq_refl)
|(apply GL_on;eq_refl;eq_refl)
|(apply G_pv;eq_refl;first|exact trivial|omega)
|(apply G_cmpF;eq_refl;eq_refl;omega)
|(apply G_box;eq_refl;eq_refl;intro _))
      exact ⟨[], (by repeat first | exact Wk.nil | exact Wk.refl | (apply Wk.cons; (focus ((repeat first | exact Rem.here | apply Rem.there | apply Rem.skip); done))) | apply Wk.nilv | apply Wk.last | apply Wk.drop), rfl, rfl⟩
theorem lit16_cv {w : World} {c : Circ} {h : Hd} {l t : Int} (h0 : 0 ≤ l) (h1 : l ≤ 40000) (h2 : 0 ≤ t * c.max) (h3 : t * c.max ≤ 10000000) : CVN Tryz.prog 24 [.agg (ccells c h).toArray, nu l, nu t] w fun v N => N = [] ∧ v = nu (atM c.max l t) := by
  refine CVN.enter 26 [6] Tryz.func24 rfl rfl rfl (by decide) rfl ?_
  by_cases hb : l % 2 = 1
  · by_cases hv : 0 < l / 2
    · have e : atM c.max l t = -(2 + t * c.max + l / 2 - 1) := by unfold atM; rw [if_pos hb, if_pos hv]; omega
      rw [e]
      repeat' (first
|(apply GC_seqK;intro K hK)
|(apply hK;clear hK K)
|(apply GC_region)
|(apply GL_nil)
|(apply thenG_normal)
|(apply thenG_ret)
|(apply GC_ret)
|(apply GC_if_true;eq_refl)
|(apply retG1;eq_refl)
|(apply GL_on;eq_refl;eq_refl)
|(apply G_pv;eq_refl;first|exact trivial|omega)
|(apply G_field;eq_refl)
|(apply G_ld;eq_refl;(repeat first|exact In.here|apply In.there|apply In.skip);eq_refl)
|(apply G_cmpT;eq_refl;eq_refl;omega)
|(apply G_neg;eq_refl;omega;omega)
|(apply G_box;eq_refl;eq_refl;intro _))
      exact ⟨[], (by repeat first | exact Wk.nil | exact Wk.refl | (apply Wk.cons; (focus ((repeat first | exact Rem.here | apply Rem.there | apply Rem.skip); done))) | apply Wk.nilv | apply Wk.last | apply Wk.drop), rfl, rfl⟩
    · have e : atM c.max l t = -1 := by unfold atM; rw [if_pos hb, if_neg hv]
      rw [e]
      repeat' (first
|(apply GC_seqK;intro K hK)
|(apply hK;clear hK K)
|(apply GC_region)
|(apply GL_nil)
|(apply thenG_normal)
|(apply thenG_ret)
|(apply GC_ret)
|(apply GC_skip)
|(apply GC_if_true;eq_refl)
|(apply GC_if_false;eq_refl)
|(apply retG1;eq_refl)
|(apply GL_on;eq_refl;eq_refl)
|(apply G_pv;eq_refl;first|exact trivial|omega)
|(apply G_cmpT;eq_refl;eq_refl;omega)
|(apply G_cmpF;eq_refl;eq_refl;omega)
|(apply G_neg;eq_refl;omega;omega)
|(apply G_box;eq_refl;eq_refl;intro _))
      exact ⟨[], (by repeat first | exact Wk.nil | exact Wk.refl | (apply Wk.cons; (focus ((repeat first | exact Rem.here | apply Rem.there | apply Rem.skip); done))) | apply Wk.nilv | apply Wk.last | apply Wk.drop), rfl, rfl⟩
  · by_cases hv : 0 < l / 2
    · have e : atM c.max l t = 2 + t * c.max + l / 2 - 1 := by unfold atM; rw [if_neg hb, if_pos hv]; omega
      rw [e]
      repeat' (first
|(apply GC_seqK;intro K hK)
|(apply hK;clear hK K)
|(apply GC_region)
|(apply GL_nil)
|(apply thenG_normal)
|(apply GC_ret)
|(apply GC_skip)
|(apply GC_if_true;eq_refl)
|(apply GC_if_false;eq_refl)
|(apply retG1;eq_refl)
|(apply GL_on;eq_refl;eq_refl)
|(apply G_pv;eq_refl;first|exact trivial|omega)
|(apply G_field;eq_refl)
|(apply G_ld;eq_refl;(repeat first|exact In.here|apply In.there|apply In.skip);eq_refl)
|(apply G_cmpT;eq_refl;eq_refl;omega)
|(apply G_cmpF;eq_refl;eq_refl;omega)
|(apply G_box;eq_refl;eq_refl;intro _))
      exact ⟨[], (by repeat first | exact Wk.nil | exact Wk.refl | (apply Wk.cons; (focus ((repeat first | exact Rem.here | apply Rem.there | apply Rem.skip); done))) | apply Wk.nilv | apply Wk.last | apply Wk.drop), rfl, rfl⟩
    · have e : atM c.max l t = 1 := by unfold atM; rw [if_neg hb, if_neg hv]
      rw [e]
      repeat' (first
|(apply GC_seqK;intro K hK)
|(apply hK;clear hK K)
|(apply GC_region)
|(apply GL_nil)
|(apply thenG_normal)
|(apply GC_ret)
|(apply GC_skip)
|(apply GC_if_false;eq_refl)
|(apply retG1;eq_refl)
|(apply GL_on;eq_refl;eq_refl)
|(apply G_pv;eq_refl;first|exact trivial|omega)
|(apply G_cmpF;eq_refl;eq_refl;omega)
|(apply G_box;eq_refl;eq_refl;intro _))
      exact ⟨[], (by repeat first | exact Wk.nil | exact Wk.refl | (apply Wk.cons; (focus ((repeat first | exact Rem.here | apply Rem.there | apply Rem.skip); done))) | apply Wk.nilv | apply Wk.last | apply Wk.drop), rfl, rfl⟩
theorem gatesS_cv {w : World} {c : Circ} {h js : Hd} {t : Int} (R : Right c) (H : CirAt w c h js) (t0 : 0 ≤ t) (t1 : t ≤ 600) : CVN Tryz.prog 65 [.agg (ccells c h).toArray, nu t] w (CliR (gatesS c t)) := by
  have hAnd := H.ands
  have m0 := R.m0
  have m1 := R.m1
  have n3 := R.nAnd
  obtain ⟨z0, z1⟩ := mul_le t0 t1 m0 m1
  have hat : ∀ Γ l, inR c l → ∀ w', Mem w' Γ → CVN Tryz.prog 22 [.agg (ccells c h).toArray, nu l, nu t] w' fun v N => N = [] ∧ v = nu (atM c.max l t) := fun Γ l hl w' M => at_cv hl.1 (by unfold inR at hl; omega) z0 z1
  refine CVN.enter 53 [4] Tryz.func65 rfl rfl rfl (by decide) rfl ?_
  repeat' (first
|(apply GC_seqK;intro K hK)
|(apply hK;clear hK K)
|(apply GC_block)
|(apply GC_region)
|(apply GL_nil)
|(apply thenG_normal)
|(apply GL_on;eq_refl;eq_refl)
|(apply G_pv;eq_refl;first|exact trivial|omega)
|(apply G_field;eq_refl)
|(apply G_ld;eq_refl;(repeat first|exact In.here|apply In.there|apply In.skip);eq_refl)
|(apply G_len;eq_refl)
|(apply G_box;eq_refl;eq_refl;intro _))
  rename_i b2
  refine GC_loopK [1, 2, 13, 14] (fun s : Nat × List (Hdl × List Int) × Option Addr × Nat => [(5, .slice s.2.2.1 s.2.1.length s.2.2.2), (15, nu s.1)]) (fun s => [.any (bun (fam rowJ s.2.1)), .vec encS 1 60 s.2.2.1 s.2.2.2 s.2.1, .box b2 66 (ccells c h), .old w none_])
    (fun s => s.1 ≤ c.ands.length ∧ s.2.1.map (·.2) = (c.ands.take s.1).flatMap (gateS c.max t)) (fun s => c.ands.length - s.1) (0, [], none, 0) (by repeat first | exact Pick.nil | (apply Pick.cons; eq_refl)) (by repeat first | exact trivial | refine ⟨rfl, ?_⟩) (rows_nil (Wk.nilv (by repeat first | exact Wk.nil | exact Wk.refl | (apply Wk.cons; (focus ((repeat first | exact Rem.here | apply Rem.there | apply Rem.skip); done))) | apply Wk.nilv | apply Wk.last | apply Wk.drop))) ⟨Nat.zero_le _, rfl⟩ ?_
  rintro ⟨i, ps, A, kA⟩ ⟨hi, hps⟩
  dsimp only at hi hps ⊢
  have hpl : ps.length = 3 * i := by
    have := congrArg List.length hps
    rw [List.length_map, flat_eq (fun _ => gateS_len)] at this
    simp only [List.length_take] at this
    omega
  rcases Nat.lt_or_ge i c.ands.length with hlt | hge
  · obtain ⟨g1, g2, g3⟩ := R.gate (gt_mem (l := c.ands) (i := (i : Int)) (by omega) (by omega))
    have g0 : inR c (gt c.ands (i : Int)).1 := g1.in
    have a1 := atM_le (mx := c.max) (t := t) g0.1 (by unfold inR at g0; omega) z0 z1
    have a2 := atM_le (mx := c.max) (t := t) g2.1 (by unfold inR at g2; omega) z0 z1
    have a3 := atM_le (mx := c.max) (t := t) g3.1 (by unfold inR at g3; omega) z0 z1
    have hsn := flat_snoc (f := gateS c.max t) hlt
    repeat' (first
|(apply G_call;eq_refl;eq_refl;(apply hat;first|exact g0|exact g2|exact g3);rintro _ _ ⟨rfl, rfl⟩)
|(apply G_app (enc := encS);(first|exact wr_p|kernel_rfl);eq_refl;eq_refl;(intro A c;(repeat first|exact Upd.here|apply Upd.there|apply Upd.skip));infer_instance;(repeat first|exact In.here|apply In.there|apply In.skip);(exact (Dec.c1 (a := ((_, _), [-atM c.max (gt c.ands (i : Int)).1 t, atM c.max (gt c.ands (i : Int)).2.1 t])) rfl (Dec.c1 (a := ((_, _), [-atM c.max (gt c.ands (i : Int)).1 t, atM c.max (gt c.ands (i : Int)).2.2 t])) rfl (Dec.c1 (a := ((_, _), [atM c.max (gt c.ands (i : Int)).1 t, -atM c.max (gt c.ands (i : Int)).2.1 t, -atM c.max (gt c.ands (i : Int)).2.2 t])) rfl Dec.nil))));eq_refl;eq_refl;eq_refl;(simp only [List.length_cons, List.length_nil];omega);decide;intro A9 k9)
|(apply GC_seqK;intro K hK)
|(apply hK;clear hK K)
|(apply GC_block)
|(apply GC_region)
|(apply GL_nil)
|(apply thenG_normal)
|(apply blockG_normal)
|(apply GC_skip)
|(apply GC_if_true;eq_refl)
|(apply GL_on;eq_refl;eq_refl)
|(refine GC_draws (id := 5) [.q 0, .q 1, .q 2, .q 3, .q 5, .q 6, .q 7, .q 8, .q 10, .q 11, .q 12, .q 13, .c 4, .c 9, .c 14, .q 15, .q 16, .q 17] mixed (by kernel_rfl) (by kernel_rfl) ?_)
|(apply GS_nil)
|(apply GS_qon;eq_refl;eq_refl;eq_refl;eq_refl)
|(apply GS_con;eq_refl;eq_refl;eq_refl;eq_refl)
|(apply G_pv;eq_refl;first|exact trivial|omega)
|(apply G_field;eq_refl)
|(apply G_ld;eq_refl;(repeat first|exact In.here|apply In.there|apply In.skip);eq_refl)
|(apply G_ldW;eq_refl;(repeat first|exact In.here|apply In.there|apply In.skip);eq_refl)
|(apply G_rdW;eq_refl;(first|(apply Rd.own;(repeat first|exact In.here|apply In.there|apply In.skip);infer_instance)|(apply Rd.old;(repeat first|exact In.here|apply In.there|apply In.skip);assumption)|(apply Rd.oldR;(repeat first|exact In.here|apply In.there|apply In.skip);assumption)|exact Rd.nil|assumption);infer_instance;(case ih => infer_instance);omega;omega)
|(apply G_cmpT;eq_refl;eq_refl;omega)
|(apply G_ix;eq_refl;eq_refl;(first|(apply Rd.own;(repeat first|exact In.here|apply In.there|apply In.skip);infer_instance)|(apply Rd.old;(repeat first|exact In.here|apply In.there|apply In.skip);assumption)|(apply Rd.oldR;(repeat first|exact In.here|apply In.there|apply In.skip);assumption)|exact Rd.nil|assumption);(first|eq_refl|omega);omega;omega)
|(apply G_neg;eq_refl;omega;omega)
|(apply G_alloc;eq_refl;intro _)
|(apply G_stW;(first|exact wr_p|kernel_rfl);eq_refl;eq_refl;eq_refl;eq_refl;(repeat first|exact Upd.here|apply Upd.there|apply Upd.skip);eq_refl)
|(apply G_new (fun b => .slice (some ⟨b, 0, none⟩) 2 2);eq_refl;(intro _;apply buildS60_2 <;> eq_refl);intro _)
|(apply G_new (fun b => .slice (some ⟨b, 0, none⟩) 3 3);eq_refl;(intro _;apply buildS60_3 <;> eq_refl);intro _)
|(apply G_new (fun b => .slice (some ⟨b, 0, none⟩) 3 3);eq_refl;(intro _;apply buildS55_3 <;> eq_refl);intro _))
    rename_i b7 c1 c2 c3 c4
    refine ⟨(i + 1, ps ++ [((some ⟨c1, 0, none⟩, 2), [-atM c.max (gt c.ands (i : Int)).1 t, atM c.max (gt c.ands (i : Int)).2.1 t]), ((some ⟨c2, 0, none⟩, 2), [-atM c.max (gt c.ands (i : Int)).1 t, atM c.max (gt c.ands (i : Int)).2.2 t]), ((some ⟨c3, 0, none⟩, 3), [atM c.max (gt c.ands (i : Int)).1 t, -atM c.max (gt c.ands (i : Int)).2.1 t, -atM c.max (gt c.ands (i : Int)).2.2 t])], A9, k9), (by repeat first | exact trivial | refine ⟨rfl, ?_⟩), (by dsimp only; exact Wk.add3 (by repeat first | exact Rem.here | apply Rem.there | apply Rem.skip) (by repeat first | exact Rem.here | apply Rem.there | apply Rem.skip) (by repeat first | exact Rem.here | apply Rem.there | apply Rem.skip) (by repeat first | exact Rem.here | apply Rem.there | apply Rem.skip) rfl rfl rfl (Nat.le_of_ble_eq_true rfl) (Nat.le_of_ble_eq_true rfl) (Nat.le_of_ble_eq_true rfl) (by repeat first | exact Wk.nil | exact Wk.refl | (apply Wk.cons; (focus ((repeat first | exact Rem.here | apply Rem.there | apply Rem.skip); done))) | apply Wk.nilv | apply Wk.last | apply Wk.drop)), ⟨hlt, ?_⟩, by simp only; omega⟩
    simp only
    rw [hsn, List.map_append, hps]
    rfl
  · obtain rfl : i = c.ands.length := by omega
    rw [List.take_length] at hps
    repeat' (first
|(apply GC_seqK;intro K hK)
|(apply hK;clear hK K)
|(clear hK K;apply hK;clear hK K)
|(apply GC_region)
|(apply GL_nil)
|(apply thenG_normal)
|(apply thenG_exit)
|(apply blockG_hit)
|(apply GC_ret)
|(apply GC_exit)
|(apply GC_if_false;eq_refl)
|(apply retG1;eq_refl)
|(apply GL_on;eq_refl;eq_refl)
|(apply G_pv;eq_refl;first|exact trivial|omega)
|(apply G_cmpF;eq_refl;eq_refl;omega))
    exact ⟨[.vec encS 1 60 A kA ps, .any (bun (fam rowJ ps))], (by repeat first | exact Wk.nil | exact Wk.refl | (apply Wk.cons; (focus ((repeat first | exact Rem.here | apply Rem.there | apply Rem.skip); done))) | apply Wk.nilv | apply Wk.last | apply Wk.drop), ps, A, kA, rfl, hps, rfl⟩
theorem consS_cv {w : World} {c : Circ} {h js : Hd} {t : Int} (R : Right c) (H : CirAt w c h js) (t0 : 0 ≤ t) (t1 : t ≤ 600) : CVN Tryz.prog 66 [.agg (ccells c h).toArray, nu t] w (CliR (consS c t)) := by
  have hCon := H.constraints
  have m0 := R.m0
  have m1 := R.m1
  have n3 := R.nCon
  obtain ⟨z0, z1⟩ := mul_le t0 t1 m0 m1
  have hat : ∀ Γ l, inR c l → ∀ w', Mem w' Γ → CVN Tryz.prog 22 [.agg (ccells c h).toArray, nu l, nu t] w' fun v N => N = [] ∧ v = nu (atM c.max l t) := fun Γ l hl w' M => at_cv hl.1 (by unfold inR at hl; omega) z0 z1
  refine CVN.enter 26 [4] Tryz.func66 rfl rfl rfl (by decide) rfl ?_
  repeat' (first
|(apply GC_seqK;intro K hK)
|(apply hK;clear hK K)
|(apply GC_block)
|(apply GC_region)
|(apply GL_nil)
|(apply thenG_normal)
|(apply GL_on;eq_refl;eq_refl)
|(apply G_pv;eq_refl;first|exact trivial|omega)
|(apply G_field;eq_refl)
|(apply G_ld;eq_refl;(repeat first|exact In.here|apply In.there|apply In.skip);eq_refl)
|(apply G_len;eq_refl)
|(apply G_box;eq_refl;eq_refl;intro _))
  rename_i b2
  refine GC_loopK [1, 2, 10, 11] (fun s : Nat × List (Hdl × List Int) × Option Addr × Nat => [(5, .slice s.2.2.1 s.2.1.length s.2.2.2), (12, nu s.1)]) (fun s => [.any (bun (fam rowJ s.2.1)), .vec encS 1 60 s.2.2.1 s.2.2.2 s.2.1, .box b2 66 (ccells c h), .old w none_])
    (fun s => s.1 ≤ c.constraints.length ∧ s.2.1.map (·.2) = (c.constraints.take s.1).map fun l => [atM c.max l t]) (fun s => c.constraints.length - s.1) (0, [], none, 0) (by repeat first | exact Pick.nil | (apply Pick.cons; eq_refl)) (by repeat first | exact trivial | refine ⟨rfl, ?_⟩) (rows_nil (Wk.nilv (by repeat first | exact Wk.nil | exact Wk.refl | (apply Wk.cons; (focus ((repeat first | exact Rem.here | apply Rem.there | apply Rem.skip); done))) | apply Wk.nilv | apply Wk.last | apply Wk.drop))) ⟨Nat.zero_le _, rfl⟩ ?_
  rintro ⟨i, ps, A, kA⟩ ⟨hi, hps⟩
  dsimp only at hi hps ⊢
  have hpl : ps.length = i := by
    have := congrArg List.length hps
    simp only [List.length_map, List.length_take] at this
    omega
  rcases Nat.lt_or_ge i c.constraints.length with hlt | hge
  · have g0 := R.con (gt_mem (l := c.constraints) (i := (i : Int)) (by omega) (by omega))
    have a1 := atM_le (mx := c.max) (t := t) g0.1 (by unfold inR at g0; omega) z0 z1
    repeat' (first
|(apply G_call;eq_refl;eq_refl;(apply hat;exact g0);rintro _ _ ⟨rfl, rfl⟩)
|(apply G_app (enc := encS);(first|exact wr_p|kernel_rfl);eq_refl;eq_refl;(intro A c;(repeat first|exact Upd.here|apply Upd.there|apply Upd.skip));infer_instance;(repeat first|exact In.here|apply In.there|apply In.skip);(exact (Dec.c1 (a := ((_, _), [atM c.max (gt c.constraints (i : Int)) t])) rfl Dec.nil));eq_refl;eq_refl;eq_refl;(simp only [List.length_cons, List.length_nil];omega);decide;intro A9 k9)
|(apply GC_seqK;intro K hK)
|(apply hK;clear hK K)
|(apply GC_block)
|(apply GC_region)
|(apply GL_nil)
|(apply thenG_normal)
|(apply blockG_normal)
|(apply GC_skip)
|(apply GC_if_true;eq_refl)
|(apply GL_on;eq_refl;eq_refl)
|(apply G_pv;eq_refl;first|exact trivial|omega)
|(apply G_ldW;eq_refl;(repeat first|exact In.here|apply In.there|apply In.skip);eq_refl)
|(apply G_rd;eq_refl;(first|(apply Rd.own;(repeat first|exact In.here|apply In.there|apply In.skip);infer_instance)|(apply Rd.old;(repeat first|exact In.here|apply In.there|apply In.skip);assumption)|(apply Rd.oldR;(repeat first|exact In.here|apply In.there|apply In.skip);assumption)|exact Rd.nil|assumption);(case ih => infer_instance);omega;omega;eq_refl)
|(apply G_cmpT;eq_refl;eq_refl;omega)
|(apply G_ix;eq_refl;eq_refl;(first|(apply Rd.own;(repeat first|exact In.here|apply In.there|apply In.skip);infer_instance)|(apply Rd.old;(repeat first|exact In.here|apply In.there|apply In.skip);assumption)|(apply Rd.oldR;(repeat first|exact In.here|apply In.there|apply In.skip);assumption)|exact Rd.nil|assumption);(first|eq_refl|omega);omega;omega)
|(apply G_new (fun b => .slice (some ⟨b, 0, none⟩) 1 1);eq_refl;(intro _;apply buildS60_1 <;> eq_refl);intro _)
|(apply G_new (fun b => .slice (some ⟨b, 0, none⟩) 1 1);eq_refl;(intro _;apply buildS55_1 <;> eq_refl);intro _))
    rename_i c1 c4
    refine ⟨(i + 1, ps ++ [((some ⟨c1, 0, none⟩, 1), [atM c.max (gt c.constraints (i : Int)) t])], A9, k9), (by repeat first | exact trivial | refine ⟨rfl, ?_⟩), (by dsimp only; exact Wk.add1 (by repeat first | exact Rem.here | apply Rem.there | apply Rem.skip) (by repeat first | exact Rem.here | apply Rem.there | apply Rem.skip) rfl (Nat.le_of_ble_eq_true rfl) (by repeat first | exact Wk.nil | exact Wk.refl | (apply Wk.cons; (focus ((repeat first | exact Rem.here | apply Rem.there | apply Rem.skip); done))) | apply Wk.nilv | apply Wk.last | apply Wk.drop)), ⟨hlt, ?_⟩, by simp only; omega⟩
    simp only
    rw [List.take_succ_eq_append_getElem hlt, List.map_append, List.map_append, hps, ← gt_nat hlt]
    rfl
  · obtain rfl : i = c.constraints.length := by omega
    rw [List.take_length] at hps
    repeat' (first
|(apply GC_seqK;intro K hK)
|(apply hK;clear hK K)
|(clear hK K;apply hK;clear hK K)
|(apply GC_region)
|(apply GL_nil)
|(apply thenG_normal)
|(apply thenG_exit)
|(apply blockG_hit)
|(apply GC_ret)
|(apply GC_exit)
|(apply GC_if_false;eq_refl)
|(apply retG1;eq_refl)
|(apply GL_on;eq_refl;eq_refl)
|(apply G_pv;eq_refl;first|exact trivial|omega)
|(apply G_cmpF;eq_refl;eq_refl;omega))
    exact ⟨[.vec encS 1 60 A kA ps, .any (bun (fam rowJ ps))], (by repeat first | exact Wk.nil | exact Wk.refl | (apply Wk.cons; (focus ((repeat first | exact Rem.here | apply Rem.there | apply Rem.skip); done))) | apply Wk.nilv | apply Wk.last | apply Wk.drop), ps, A, kA, rfl, hps, rfl⟩
theorem nextS_cv {w : World} {c : Circ} {h js : Hd} {t : Int} (R : Right c) (H : CirAt w c h js) (t0 : 0 ≤ t) (t1 : t ≤ 599) : CVN Tryz.prog 41 [.agg (ccells c h).toArray, nu t] w (CliR (nextS c t)) := by
  have hLat := H.latches
  have m0 := R.m0
  have m1 := R.m1
  have n3 := R.nLat
  obtain ⟨z0, z1⟩ := mul_le t0 (by omega : t ≤ 600) m0 m1
  obtain ⟨y0, y1⟩ := mul_le (by omega : 0 ≤ t + 1) (by omega : t + 1 ≤ 600) m0 m1
  have hat : ∀ Γ l, inR c l → ∀ w', Mem w' Γ → CVN Tryz.prog 22 [.agg (ccells c h).toArray, nu l, nu t] w' fun v N => N = [] ∧ v = nu (atM c.max l t) := fun Γ l hl w' M => at_cv hl.1 (by unfold inR at hl; omega) z0 z1
  have hat2 : ∀ Γ l, inR c l → ∀ w', Mem w' Γ → CVN Tryz.prog 22 [.agg (ccells c h).toArray, nu l, nu (t + 1)] w' fun v N => N = [] ∧ v = nu (atM c.max l (t + 1)) := fun Γ l hl w' M => at_cv hl.1 (by unfold inR at hl; omega) y0 y1
  refine CVN.enter 42 [4] Tryz.func41 rfl rfl rfl (by decide) rfl ?_
  repeat' (first
|(apply GC_seqK;intro K hK)
|(apply hK;clear hK K)
|(apply GC_block)
|(apply GC_region)
|(apply GL_nil)
|(apply thenG_normal)
|(apply GL_on;eq_refl;eq_refl)
|(apply G_pv;eq_refl;first|exact trivial|omega)
|(apply G_field;eq_refl)
|(apply G_ld;eq_refl;(repeat first|exact In.here|apply In.there|apply In.skip);eq_refl)
|(apply G_len;eq_refl)
|(apply G_box;eq_refl;eq_refl;intro _))
  rename_i b2
  refine GC_loopK [1, 2, 12, 13] (fun s : Nat × List (Hdl × List Int) × Option Addr × Nat => [(5, .slice s.2.2.1 s.2.1.length s.2.2.2), (14, nu s.1)]) (fun s => [.any (bun (fam rowJ s.2.1)), .vec encS 1 60 s.2.2.1 s.2.2.2 s.2.1, .box b2 66 (ccells c h), .old w none_])
    (fun s => s.1 ≤ c.latches.length ∧ s.2.1.map (·.2) = (c.latches.take s.1).flatMap (nxtS c.max t)) (fun s => c.latches.length - s.1) (0, [], none, 0) (by repeat first | exact Pick.nil | (apply Pick.cons; eq_refl)) (by repeat first | exact trivial | refine ⟨rfl, ?_⟩) (rows_nil (Wk.nilv (by repeat first | exact Wk.nil | exact Wk.refl | (apply Wk.cons; (focus ((repeat first | exact Rem.here | apply Rem.there | apply Rem.skip); done))) | apply Wk.nilv | apply Wk.last | apply Wk.drop))) ⟨Nat.zero_le _, rfl⟩ ?_
  rintro ⟨i, ps, A, kA⟩ ⟨hi, hps⟩
  dsimp only at hi hps ⊢
  have hpl : ps.length = 2 * i := by
    have := congrArg List.length hps
    rw [List.length_map, flat_eq (fun _ => nxtS_len)] at this
    simp only [List.length_take] at this
    omega
  rcases Nat.lt_or_ge i c.latches.length with hlt | hge
  · obtain ⟨g1, g2, _⟩ := R.lat (gt_mem (l := c.latches) (i := (i : Int)) (by omega) (by omega))
    have g0 : inR c (gt c.latches (i : Int)).1 := g1.in
    have a1 := atM_le (mx := c.max) (t := t + 1) g0.1 (by unfold inR at g0; omega) y0 y1
    have a2 := atM_le (mx := c.max) (t := t) g2.1 (by unfold inR at g2; omega) z0 z1
    have hsn := flat_snoc (f := nxtS c.max t) hlt
    repeat' (first
|(apply G_call;eq_refl;eq_refl;(first|(apply hat;first|exact g0|exact g2)|(apply hat2;first|exact g0|exact g2));rintro _ _ ⟨rfl, rfl⟩)
|(apply G_app (enc := encS);(first|exact wr_p|kernel_rfl);eq_refl;eq_refl;(intro A c;(repeat first|exact Upd.here|apply Upd.there|apply Upd.skip));infer_instance;(repeat first|exact In.here|apply In.there|apply In.skip);(exact (Dec.c1 (a := ((_, _), [-atM c.max (gt c.latches (i : Int)).1 (t + 1), atM c.max (gt c.latches (i : Int)).2.1 t])) rfl (Dec.c1 (a := ((_, _), [atM c.max (gt c.latches (i : Int)).1 (t + 1), -atM c.max (gt c.latches (i : Int)).2.1 t])) rfl Dec.nil)));eq_refl;eq_refl;eq_refl;(simp only [List.length_cons, List.length_nil];omega);decide;intro A9 k9)
|(apply GC_seqK;intro K hK)
|(apply hK;clear hK K)
|(apply GC_block)
|(apply GC_region)
|(apply GL_nil)
|(apply thenG_normal)
|(apply blockG_normal)
|(apply GC_skip)
|(apply GC_if_true;eq_refl)
|(apply GL_on;eq_refl;eq_refl)
|(refine GC_draws (id := 5) [.q 0, .q 1, .q 2, .q 3, .q 4, .q 6, .q 7, .q 8, .q 9, .c 5, .c 10, .q 11, .q 12] mixed (by kernel_rfl) (by kernel_rfl) ?_)
|(apply GS_nil)
|(apply GS_qon;eq_refl;eq_refl;eq_refl;eq_refl)
|(apply GS_con;eq_refl;eq_refl;eq_refl;eq_refl)
|(apply G_pv;eq_refl;first|exact trivial|omega)
|(apply G_field;eq_refl)
|(apply G_ld;eq_refl;(repeat first|exact In.here|apply In.there|apply In.skip);eq_refl)
|(apply G_ldW;eq_refl;(repeat first|exact In.here|apply In.there|apply In.skip);eq_refl)
|(apply G_rdW;eq_refl;(first|(apply Rd.own;(repeat first|exact In.here|apply In.there|apply In.skip);infer_instance)|(apply Rd.old;(repeat first|exact In.here|apply In.there|apply In.skip);assumption)|(apply Rd.oldR;(repeat first|exact In.here|apply In.there|apply In.skip);assumption)|exact Rd.nil|assumption);infer_instance;(case ih => infer_instance);omega;omega)
|(apply G_cmpT;eq_refl;eq_refl;omega)
|(apply G_ix;eq_refl;eq_refl;(first|(apply Rd.own;(repeat first|exact In.here|apply In.there|apply In.skip);infer_instance)|(apply Rd.old;(repeat first|exact In.here|apply In.there|apply In.skip);assumption)|(apply Rd.oldR;(repeat first|exact In.here|apply In.there|apply In.skip);assumption)|exact Rd.nil|assumption);(first|eq_refl|omega);omega;omega)
|(apply G_neg;eq_refl;omega;omega)
|(apply G_alloc;eq_refl;intro _)
|(apply G_stW;(first|exact wr_p|kernel_rfl);eq_refl;eq_refl;eq_refl;eq_refl;(repeat first|exact Upd.here|apply Upd.there|apply Upd.skip);eq_refl)
|(apply G_new (fun b => .slice (some ⟨b, 0, none⟩) 2 2);eq_refl;(intro _;apply buildS60_2 <;> eq_refl);intro _)
|(apply G_new (fun b => .slice (some ⟨b, 0, none⟩) 2 2);eq_refl;(intro _;apply buildS55_2 <;> eq_refl);intro _))
    rename_i b7 c1 c2 c4
    refine ⟨(i + 1, ps ++ [((some ⟨c1, 0, none⟩, 2), [-atM c.max (gt c.latches (i : Int)).1 (t + 1), atM c.max (gt c.latches (i : Int)).2.1 t]), ((some ⟨c2, 0, none⟩, 2), [atM c.max (gt c.latches (i : Int)).1 (t + 1), -atM c.max (gt c.latches (i : Int)).2.1 t])], A9, k9), (by repeat first | exact trivial | refine ⟨rfl, ?_⟩), (by dsimp only; exact Wk.add2 (by repeat first | exact Rem.here | apply Rem.there | apply Rem.skip) (by repeat first | exact Rem.here | apply Rem.there | apply Rem.skip) (by repeat first | exact Rem.here | apply Rem.there | apply Rem.skip) rfl rfl (Nat.le_of_ble_eq_true rfl) (Nat.le_of_ble_eq_true rfl) (by repeat first | exact Wk.nil | exact Wk.refl | (apply Wk.cons; (focus ((repeat first | exact Rem.here | apply Rem.there | apply Rem.skip); done))) | apply Wk.nilv | apply Wk.last | apply Wk.drop)), ⟨hlt, ?_⟩, by simp only; omega⟩
    simp only
    rw [hsn, List.map_append, hps]
    rfl
  · obtain rfl : i = c.latches.length := by omega
    rw [List.take_length] at hps
    repeat' (first
|(apply GC_seqK;intro K hK)
|(apply hK;clear hK K)
|(clear hK K;apply hK;clear hK K)
|(apply GC_region)
|(apply GL_nil)
|(apply thenG_normal)
|(apply thenG_exit)
|(apply blockG_hit)
|(apply GC_ret)
|(apply GC_exit)
|(apply GC_if_false;eq_refl)
|(apply retG1;eq_refl)
|(apply GL_on;eq_refl;eq_refl)
|(apply G_pv;eq_refl;first|exact trivial|omega)
|(apply G_cmpF;eq_refl;eq_refl;omega))
    exact ⟨[.vec encS 1 60 A kA ps, .any (bun (fam rowJ ps))], (by repeat first | exact Wk.nil | exact Wk.refl | (apply Wk.cons; (focus ((repeat first | exact Rem.here | apply Rem.there | apply Rem.skip); done))) | apply Wk.nilv | apply Wk.last | apply Wk.drop), ps, A, kA, rfl, hps, rfl⟩
theorem atM_or {mx l : Int} (h : l % 2 = 0) : atM mx (l + 1) 0 = -atM mx l 0 := by
  unfold atM
  rw [if_pos (by omega), if_neg (by omega : ¬ l % 2 = 1), show (l + 1) / 2 = l / 2 by omega]
theorem firstS_cv {w : World} {c : Circ} {h js : Hd} (R : Right c) (H : CirAt w c h js) : CVN Tryz.prog 39 [.agg (ccells c h).toArray] w (CliR (firstS c)) := by
  have hLat := H.latches
  have m0 := R.m0
  have m1 := R.m1
  have n3 := R.nLat
  have hat : ∀ Γ l, 0 ≤ l → l ≤ 40000 → ∀ w', Mem w' Γ → CVN Tryz.prog 22 [.agg (ccells c h).toArray, nu l, nu 0] w' fun v N => N = [] ∧ v = nu (atM c.max l 0) := fun Γ l h0 h1 w' M => at_cv h0 h1 (by omega) (by omega)
  refine CVN.enter 31 [2] Tryz.func39 rfl rfl rfl (by decide) rfl ?_
  repeat' (first
|(apply GC_seqK;intro K hK)
|(apply hK;clear hK K)
|(apply GC_block)
|(apply GC_region)
|(apply GL_nil)
|(apply thenG_normal)
|(apply GL_on;eq_refl;eq_refl)
|(apply G_pv;eq_refl;first|exact trivial|omega)
|(apply G_field;eq_refl)
|(apply G_ld;eq_refl;(repeat first|exact In.here|apply In.there|apply In.skip);eq_refl)
|(apply G_len;eq_refl)
|(apply G_box;eq_refl;eq_refl;intro _))
  rename_i b2
  refine GC_loopK [1, 8, 9] (fun s : Nat × List (Hdl × List Int) × Option Addr × Nat => [(3, .slice s.2.2.1 s.2.1.length s.2.2.2), (10, nu s.1)]) (fun s => [.any (bun (fam rowJ s.2.1)), .vec encS 1 60 s.2.2.1 s.2.2.2 s.2.1, .box b2 66 (ccells c h), .old w none_])
    (fun s => s.1 ≤ c.latches.length ∧ s.2.1.map (·.2) = (c.latches.take s.1).flatMap (rstS c.max)) (fun s => c.latches.length - s.1) (0, [], none, 0) (by repeat first | exact Pick.nil | (apply Pick.cons; eq_refl)) (by repeat first | exact trivial | refine ⟨rfl, ?_⟩) (rows_nil (Wk.nilv (by repeat first | exact Wk.nil | exact Wk.refl | (apply Wk.cons; (focus ((repeat first | exact Rem.here | apply Rem.there | apply Rem.skip); done))) | apply Wk.nilv | apply Wk.last | apply Wk.drop))) ⟨Nat.zero_le _, rfl⟩ ?_
  rintro ⟨i, ps, A, kA⟩ ⟨hi, hps⟩
  dsimp only at hi hps ⊢
  have hpl : ps.length ≤ i := by
    have h1 := congrArg List.length hps
    have h2 := flat_le (f := rstS c.max) (fun _ => rstS_len) (c.latches.take i)
    rw [List.length_map] at h1
    simp only [List.length_take] at h2
    omega
  rcases Nat.lt_or_ge i c.latches.length with hlt | hge
  · obtain ⟨g1, g2, g3⟩ := R.lat (gt_mem (l := c.latches) (i := (i : Int)) (by omega) (by omega))
    unfold defR at g1
    have hsn := flat_snoc (f := rstS c.max) hlt
    have hor : atM c.max ((gt c.latches (i : Int)).1 + 1) 0 = -atM c.max (gt c.latches (i : Int)).1 0 := atM_or g1.2.2
    by_cases hr : (gt c.latches (i : Int)).2.2 < 2
    · by_cases h0 : (gt c.latches (i : Int)).2.2 = 0
      · have er : rstS c.max (gt c.latches (i : Int)) = [[-atM c.max (gt c.latches (i : Int)).1 0]] := if_pos h0
        have ha : ∀ Γ, ∀ w', Mem w' Γ → CVN Tryz.prog 22 [.agg (ccells c h).toArray, nu ((gt c.latches (i : Int)).1 + (1 - (gt c.latches (i : Int)).2.2)), nu 0] w' fun v N => N = [] ∧ v = nu (-atM c.max (gt c.latches (i : Int)).1 0) := fun Γ w' M => by
          have := hat Γ ((gt c.latches (i : Int)).1 + (1 - (gt c.latches (i : Int)).2.2)) (by omega) (by omega) w' M
          rw [show (gt c.latches (i : Int)).1 + (1 - (gt c.latches (i : Int)).2.2) = (gt c.latches (i : Int)).1 + 1 by omega, hor] at this
          rw [show (gt c.latches (i : Int)).1 + (1 - (gt c.latches (i : Int)).2.2) = (gt c.latches (i : Int)).1 + 1 by omega]
          exact this
        repeat' (first
|(apply G_call;eq_refl;eq_refl;(apply ha);rintro _ _ ⟨rfl, rfl⟩)
|(apply GX_pure;apply p_or01;eq_refl;eq_refl;omega;omega;omega;omega;omega)
|(apply G_app (enc := encS);(first|exact wr_p|kernel_rfl);eq_refl;eq_refl;(intro A c;(repeat first|exact Upd.here|apply Upd.there|apply Upd.skip));infer_instance;(repeat first|exact In.here|apply In.there|apply In.skip);(exact (Dec.c1 (a := ((_, _), [-atM c.max (gt c.latches (i : Int)).1 0])) rfl Dec.nil));eq_refl;eq_refl;eq_refl;(simp only [List.length_cons, List.length_nil];omega);decide;intro A9 k9)
|(apply GC_seqK;intro K hK)
|(apply hK;clear hK K)
|(apply GC_block)
|(apply GC_region)
|(apply GL_nil)
|(apply thenG_normal)
|(apply blockG_normal)
|(apply GC_skip)
|(apply GC_if_true;eq_refl)
|(apply GL_on;eq_refl;eq_refl)
|(apply G_pv;eq_refl;first|exact trivial|omega)
|(apply G_field;eq_refl)
|(apply G_ld;eq_refl;(repeat first|exact In.here|apply In.there|apply In.skip);eq_refl)
|(apply G_ldW;eq_refl;(repeat first|exact In.here|apply In.there|apply In.skip);eq_refl)
|(apply G_rdW;eq_refl;(first|(apply Rd.own;(repeat first|exact In.here|apply In.there|apply In.skip);infer_instance)|(apply Rd.old;(repeat first|exact In.here|apply In.there|apply In.skip);assumption)|(apply Rd.oldR;(repeat first|exact In.here|apply In.there|apply In.skip);assumption)|exact Rd.nil|assumption);infer_instance;(case ih => infer_instance);omega;omega)
|(apply G_cmpT;eq_refl;eq_refl;omega)
|(apply G_ix;eq_refl;eq_refl;(first|(apply Rd.own;(repeat first|exact In.here|apply In.there|apply In.skip);infer_instance)|(apply Rd.old;(repeat first|exact In.here|apply In.there|apply In.skip);assumption)|(apply Rd.oldR;(repeat first|exact In.here|apply In.there|apply In.skip);assumption)|exact Rd.nil|assumption);(first|eq_refl|omega);omega;omega)
|(apply G_alloc;eq_refl;intro _)
|(apply G_stW;(first|exact wr_p|kernel_rfl);eq_refl;eq_refl;eq_refl;eq_refl;(repeat first|exact Upd.here|apply Upd.there|apply Upd.skip);eq_refl)
|(apply G_new (fun b => .slice (some ⟨b, 0, none⟩) 1 1);eq_refl;(intro _;apply buildS60_1 <;> eq_refl);intro _)
|(apply G_new (fun b => .slice (some ⟨b, 0, none⟩) 1 1);eq_refl;(intro _;apply buildS55_1 <;> eq_refl);intro _))
        rename_i b5 c1 c4
        refine ⟨(i + 1, ps ++ [((some ⟨c1, 0, none⟩, 1), [-atM c.max (gt c.latches (i : Int)).1 0])], A9, k9), (by repeat first | exact trivial | refine ⟨rfl, ?_⟩), (by dsimp only; exact Wk.add1 (by repeat first | exact Rem.here | apply Rem.there | apply Rem.skip) (by repeat first | exact Rem.here | apply Rem.there | apply Rem.skip) rfl (Nat.le_of_ble_eq_true rfl) (by repeat first | exact Wk.nil | exact Wk.refl | (apply Wk.cons; (focus ((repeat first | exact Rem.here | apply Rem.there | apply Rem.skip); done))) | apply Wk.nilv | apply Wk.last | apply Wk.drop)), ⟨hlt, ?_⟩, by simp only; omega⟩
        simp only
        rw [hsn, List.map_append, hps, er]
        rfl
      · have h1 : (gt c.latches (i : Int)).2.2 = 1 := by omega
        have er : rstS c.max (gt c.latches (i : Int)) = [[atM c.max (gt c.latches (i : Int)).1 0]] := by
          unfold rstS
          rw [if_neg h0, if_pos h1]
        have ha : ∀ Γ, ∀ w', Mem w' Γ → CVN Tryz.prog 22 [.agg (ccells c h).toArray, nu ((gt c.latches (i : Int)).1 + (1 - (gt c.latches (i : Int)).2.2)), nu 0] w' fun v N => N = [] ∧ v = nu (atM c.max (gt c.latches (i : Int)).1 0) := fun Γ w' M => by
          have := hat Γ ((gt c.latches (i : Int)).1 + (1 - (gt c.latches (i : Int)).2.2)) (by omega) (by omega) w' M
          rw [show (gt c.latches (i : Int)).1 + (1 - (gt c.latches (i : Int)).2.2) = (gt c.latches (i : Int)).1 by omega] at this
          rw [show (gt c.latches (i : Int)).1 + (1 - (gt c.latches (i : Int)).2.2) = (gt c.latches (i : Int)).1 by omega]
          exact this
        repeat' (first
|(apply G_call;eq_refl;eq_refl;(apply ha);rintro _ _ ⟨rfl, rfl⟩)
|(apply GX_pure;apply p_or01;eq_refl;eq_refl;omega;omega;omega;omega;omega)
|(apply G_app (enc := encS);(first|exact wr_p|kernel_rfl);eq_refl;eq_refl;(intro A c;(repeat first|exact Upd.here|apply Upd.there|apply Upd.skip));infer_instance;(repeat first|exact In.here|apply In.there|apply In.skip);(exact (Dec.c1 (a := ((_, _), [atM c.max (gt c.latches (i : Int)).1 0])) rfl Dec.nil));eq_refl;eq_refl;eq_refl;(simp only [List.length_cons, List.length_nil];omega);decide;intro A9 k9)
|(apply GC_seqK;intro K hK)
|(apply hK;clear hK K)
|(apply GC_block)
|(apply GC_region)
|(apply GL_nil)
|(apply thenG_normal)
|(apply blockG_normal)
|(apply GC_skip)
|(apply GC_if_true;eq_refl)
|(apply GL_on;eq_refl;eq_refl)
|(apply G_pv;eq_refl;first|exact trivial|omega)
|(apply G_field;eq_refl)
|(apply G_ld;eq_refl;(repeat first|exact In.here|apply In.there|apply In.skip);eq_refl)
|(apply G_ldW;eq_refl;(repeat first|exact In.here|apply In.there|apply In.skip);eq_refl)
|(apply G_rdW;eq_refl;(first|(apply Rd.own;(repeat first|exact In.here|apply In.there|apply In.skip);infer_instance)|(apply Rd.old;(repeat first|exact In.here|apply In.there|apply In.skip);assumption)|(apply Rd.oldR;(repeat first|exact In.here|apply In.there|apply In.skip);assumption)|exact Rd.nil|assumption);infer_instance;(case ih => infer_instance);omega;omega)
|(apply G_cmpT;eq_refl;eq_refl;omega)
|(apply G_ix;eq_refl;eq_refl;(first|(apply Rd.own;(repeat first|exact In.here|apply In.there|apply In.skip);infer_instance)|(apply Rd.old;(repeat first|exact In.here|apply In.there|apply In.skip);assumption)|(apply Rd.oldR;(repeat first|exact In.here|apply In.there|apply In.skip);assumption)|exact Rd.nil|assumption);(first|eq_refl|omega);omega;omega)
|(apply G_alloc;eq_refl;intro _)
|(apply G_stW;(first|exact wr_p|kernel_rfl);eq_refl;eq_refl;eq_refl;eq_refl;(repeat first|exact Upd.here|apply Upd.there|apply Upd.skip);eq_refl)
|(apply G_new (fun b => .slice (some ⟨b, 0, none⟩) 1 1);eq_refl;(intro _;apply buildS60_1 <;> eq_refl);intro _)
|(apply G_new (fun b => .slice (some ⟨b, 0, none⟩) 1 1);eq_refl;(intro _;apply buildS55_1 <;> eq_refl);intro _))
        rename_i b5 c1 c4
        refine ⟨(i + 1, ps ++ [((some ⟨c1, 0, none⟩, 1), [atM c.max (gt c.latches (i : Int)).1 0])], A9, k9), (by repeat first | exact trivial | refine ⟨rfl, ?_⟩), (by dsimp only; exact Wk.add1 (by repeat first | exact Rem.here | apply Rem.there | apply Rem.skip) (by repeat first | exact Rem.here | apply Rem.there | apply Rem.skip) rfl (Nat.le_of_ble_eq_true rfl) (by repeat first | exact Wk.nil | exact Wk.refl | (apply Wk.cons; (focus ((repeat first | exact Rem.here | apply Rem.there | apply Rem.skip); done))) | apply Wk.nilv | apply Wk.last | apply Wk.drop)), ⟨hlt, ?_⟩, by simp only; omega⟩
        simp only
        rw [hsn, List.map_append, hps, er]
        rfl
    · have er : rstS c.max (gt c.latches (i : Int)) = [] := by
        unfold rstS
        rw [if_neg (by omega), if_neg (by omega)]
      repeat' (first
|(apply GC_seqK;intro K hK)
|(apply hK;clear hK K)
|(apply GC_block)
|(apply GC_region)
|(apply GL_nil)
|(apply thenG_normal)
|(apply blockG_normal)
|(apply GC_skip)
|(apply GC_if_true;eq_refl)
|(apply GC_if_false;eq_refl)
|(apply GL_on;eq_refl;eq_refl)
|(apply G_pv;eq_refl;first|exact trivial|omega)
|(apply G_field;eq_refl)
|(apply G_ld;eq_refl;(repeat first|exact In.here|apply In.there|apply In.skip);eq_refl)
|(apply G_rdW;eq_refl;(first|(apply Rd.own;(repeat first|exact In.here|apply In.there|apply In.skip);infer_instance)|(apply Rd.old;(repeat first|exact In.here|apply In.there|apply In.skip);assumption)|(apply Rd.oldR;(repeat first|exact In.here|apply In.there|apply In.skip);assumption)|exact Rd.nil|assumption);infer_instance;(case ih => infer_instance);omega;omega)
|(apply G_cmpT;eq_refl;eq_refl;omega)
|(apply G_cmpF;eq_refl;eq_refl;omega)
|(apply G_ix;eq_refl;eq_refl;(first|(apply Rd.own;(repeat first|exact In.here|apply In.there|apply In.skip);infer_instance)|(apply Rd.old;(repeat first|exact In.here|apply In.there|apply In.skip);assumption)|(apply Rd.oldR;(repeat first|exact In.here|apply In.there|apply In.skip);assumption)|exact Rd.nil|assumption);(first|eq_refl|omega);omega;omega)
|(apply G_alloc;eq_refl;intro _)
|(apply G_stW;(first|exact wr_p|kernel_rfl);eq_refl;eq_refl;eq_refl;eq_refl;(repeat first|exact Upd.here|apply Upd.there|apply Upd.skip);eq_refl))
      refine ⟨(i + 1, ps, A, kA), (by repeat first | exact trivial | refine ⟨rfl, ?_⟩), (by repeat first | exact Wk.nil | exact Wk.refl | (apply Wk.cons; (focus ((repeat first | exact Rem.here | apply Rem.there | apply Rem.skip); done))) | apply Wk.nilv | apply Wk.last | apply Wk.drop), ⟨hlt, ?_⟩, by simp only; omega⟩
      simp only
      rw [hsn, hps, er, List.append_nil]
  · obtain rfl : i = c.latches.length := by omega
    rw [List.take_length] at hps
    repeat' (first
|(apply GC_seqK;intro K hK)
|(apply hK;clear hK K)
|(clear hK K;apply hK;clear hK K)
|(apply GC_region)
|(apply GL_nil)
|(apply thenG_normal)
|(apply thenG_exit)
|(apply blockG_hit)
|(apply GC_ret)
|(apply GC_exit)
|(apply GC_if_false;eq_refl)
|(apply retG1;eq_refl)
|(apply GL_on;eq_refl;eq_refl)
|(apply G_pv;eq_refl;first|exact trivial|omega)
|(apply G_cmpF;eq_refl;eq_refl;omega))
    exact ⟨[.vec encS 1 60 A kA ps, .any (bun (fam rowJ ps))], (by repeat first | exact Wk.nil | exact Wk.refl | (apply Wk.cons; (focus ((repeat first | exact Rem.here | apply Rem.there | apply Rem.skip); done))) | apply Wk.nilv | apply Wk.last | apply Wk.drop), ps, A, kA, rfl, hps, rfl⟩
end SC
end Go.Proofs.YtbmngkdnebklpaaGreat
end
section
/- trestleref16: Step0, Next0, First0: the walks. -/
set_option linter.unusedVariables false
set_option linter.unusedSimpArgs false
namespace Go.Proofs.YtbmngkdnebklpaaGreat
namespace SC
open Go.Proofs
attribute [local irreducible] WC WL WX WS WO OX Does DoesU Enters CV Pure thenQ blockQ retQ Wants retQC GC GL GS GX RdB thenG blockG retG Rd At gt CVN CVM
set_option maxRecDepth 100000
end SC
end Go.Proofs.YtbmngkdnebklpaaGreat
end
section
/- frames: vars, ready, looked, many, step: the walks. -/
set_option linter.unusedVariables false
set_option linter.unusedSimpArgs false
namespace Go.Proofs.YtbmngkdnebklpaaGreat
namespace SC
open Go.Proofs
theorem ftE_look {c : Circ} {t most n : Int} (h : (lookM c).2 ≠ 0) : ftE c t most n = (lookM c).2 := if_pos h
theorem ftE_rg {c : Circ} {t most n : Int} (h : (lookM c).2 = 0) (h2 : t < 0 ∨ most < t) : ftE c t most n = 1 := by unfold ftE; rw [if_neg (by omega), if_pos h2]
theorem ftE_sz {c : Circ} {t most n : Int} (h : (lookM c).2 = 0) (h2 : ¬ (t < 0 ∨ most < t)) (h3 : 262144 < 1 + n * c.max) : ftE c t most n = 6 := by unfold ftE; rw [if_neg (by omega), if_neg h2, if_pos h3]
theorem ftE_ok {c : Circ} {t most n : Int} (h : (lookM c).2 = 0) (h2 : ¬ (t < 0 ∨ most < t)) (h3 : ¬ 262144 < 1 + n * c.max) : ftE c t most n = 0 := by unfold ftE; rw [if_neg (by omega), if_neg h2, if_neg h3]
theorem ftE_zero {c : Circ} {t most n : Int} (h : ftE c t most n = 0) : (lookM c).2 = 0 ∧ 0 ≤ t ∧ t ≤ most ∧ 1 + n * c.max ≤ 262144 := by
  unfold ftE at h
  split at h
  · exact absurd h (by assumption)
  · split at h
    · cases h
    · split at h
      · cases h
      · exact ⟨by omega, by omega, by omega, by omega⟩
theorem ftE_n {c : Circ} {t most : Int} (n m : Int) (h : t < 0 ∨ most < t) : ftE c t most n = ftE c t most m := by
  by_cases he : (lookM c).2 = 0
  · rw [ftE_rg he h, ftE_rg he h]
  · rw [ftE_look he, ftE_look he]
section
variable {P : Program} {n : Nat} {all : List Oper} {K : Env → Mm → Prop} {m : Md} {e : Env} {Γ : Mm} {d : Option Tmp} {ty t t' elem : TypeId} {x y : Operand} {w : World} {td : TypeDesc} {by_ : Nat} {zv v : Value}
theorem does_index {k : Nat} {i : Int} {ik : IntKind} {cs : Array Value} [T : Ty P elem td 1 zv by_ false] (hu : P.underlying t = some (.array k elem)) (h : ev e x = some (.agg cs)) (h1 : ev e y = some (.int ik i)) (h0 : 0 ≤ i) (hk : i < k) (hv : cs[i.toNat]? = some v) : Does P (.index t x y) ty e w v w := by
  intro ρ dst pos af g hρ
  simp [execOp, hρ _ _ h, hρ _ _ h1, Instr.index, asIntOf, run_underlying hu, h0, hk, Go.part, T.size, T.agg, hv]
theorem G_index {k : Nat} {i : Int} {ik : IntKind} {cs : Array Value} [T : Ty P elem td 1 zv by_ false] (hu : P.underlying t = some (.array k elem)) (h : ev e x = some (.agg cs)) (h1 : ev e y = some (.int ik i)) (h0 : 0 ≤ i) (hk : i < k) (hv : cs[i.toNat]? = some v) (hr : GN P n all K m (push d v e) Γ) : GX P n all K m d (.index t x y) ty e Γ := GX_pure (fun _ => does_index hu h h1 h0 hk hv) hr
theorem G_addW {a b : Int} (h : ev e x = some (.int .i64 a)) (h1 : ev e y = some (.int .i64 b)) (hr : GN P n all K m (push d (nu (IntKind.i64.wrap (a + b))) e) Γ) : GX P n all K m d (.binOp .add t x y t') ty e Γ := GX_pure (fun _ => does_addW h h1) hr
end
attribute [local irreducible] WC WL WX WS WO OX Does DoesU Enters CV Pure thenQ blockQ retQ Wants retQC GC GL GS GX RdB thenG blockG retG Rd At gt CVN CVM
set_option maxRecDepth 100000
theorem vars_cv {w : World} {c : Circ} {h : Hd} {n : Int} (z0 : 0 ≤ n * c.max) (z1 : n * c.max ≤ 10000000) : CVN Tryz.prog 45 [.agg (ccells c h).toArray, nu n] w fun v N => N = [] ∧ v = nu (1 + n * c.max) := by
  refine CVN.enter 11 [4] Tryz.func45 rfl rfl rfl (by decide) rfl ?_
  repeat' (first
|(apply GC_seqK;intro K hK)
|(apply hK;clear hK K)
|(apply GC_region)
|(apply GL_nil)
|(apply thenG_normal)
|(apply GC_ret)
|(apply retG1;eq_refl)
|(apply GL_on;eq_refl;eq_refl)
|(apply G_pv;eq_refl;first|exact trivial|omega)
|(apply G_field;eq_refl)
|(apply G_ld;eq_refl;(repeat first|exact In.here|apply In.there|apply In.skip);eq_refl)
|(apply G_box;eq_refl;eq_refl;intro _))
  exact ⟨[], (by repeat first | exact Wk.nil | exact Wk.refl | (apply Wk.cons; (focus ((repeat first | exact Rem.here | apply Rem.there | apply Rem.skip); done))) | apply Wk.nilv | apply Wk.last | apply Wk.drop), rfl, rfl⟩
theorem fits_cv {w : World} {c : Circ} {h : Hd} {n : Int} (z0 : 0 ≤ n * c.max) (z1 : n * c.max ≤ 10000000) : CVN Tryz.prog 47 [.agg (ccells c h).toArray, nu n] w fun v N => N = [] ∧ v = .bool (decide (1 + n * c.max ≤ 262144)) := by
  refine CVN.enter 11 [4] Tryz.func47 rfl rfl rfl (by decide) rfl ?_
  repeat' (first
|(apply GC_seqK;intro K hK)
|(apply hK;clear hK K)
|(apply GC_region)
|(apply GL_nil)
|(apply thenG_normal)
|(apply GC_ret)
|(apply retG1;eq_refl)
|(apply GL_on;eq_refl;eq_refl)
|(apply G_pv;eq_refl;first|exact trivial|omega)
|(apply G_field;eq_refl)
|(apply G_ld;eq_refl;(repeat first|exact In.here|apply In.there|apply In.skip);eq_refl)
|(apply G_cmpD;eq_refl;eq_refl;(case hd => infer_instance))
|(apply G_box;eq_refl;eq_refl;intro _))
  exact ⟨[], (by repeat first | exact Wk.nil | exact Wk.refl | (apply Wk.cons; (focus ((repeat first | exact Rem.here | apply Rem.there | apply Rem.skip); done))) | apply Wk.nilv | apply Wk.last | apply Wk.drop), rfl, rfl⟩
theorem ready16_cv {w : World} {c : Circ} {h js : Hd} (H : CirIn w c h js) : CVN Tryz.prog 36 [.agg (ccells c h).toArray] w fun v N => N = [] ∧ v = .tuple #[.agg (ccells c h).toArray, nu (lookM c).2] := by
  have hck : ∀ Γ, In Γ (.old w none_) → ∀ w', Mem w' Γ → CVN Tryz.prog 52 [.agg (ccells c h).toArray] w' fun v N => N = [] ∧ v = .tuple #[nu (lookM c).1, nu (lookM c).2] := fun Γ hi w' M => have H' := H.chg (hi.old M); CVN.of (check_cv H'.at_ H'.sane) fun v w' h => ⟨h.2, h.1⟩
  generalize (lookM c).1 = n0 at *
  generalize (lookM c).2 = ε at *
  refine CVN.enterC1 (t := 66) 14 2 3 Tryz.func36 rfl rfl rfl rfl ?_
  repeat' (first
|(apply G_call;eq_refl;eq_refl;(apply hck;(repeat first|exact In.here|apply In.there|apply In.skip));rintro _ _ ⟨rfl, rfl⟩)
|(apply GC_seqK;intro K hK)
|(apply hK;clear hK K)
|(apply GC_region)
|(apply GL_nil)
|(apply thenG_normal)
|(apply GC_ret)
|(apply retGC1r;eq_refl;(repeat first|exact In.here|apply In.there|apply In.skip);eq_refl;eq_refl)
|(apply GL_on;eq_refl;eq_refl)
|(apply G_pv;eq_refl;first|exact trivial|omega)
|(apply G_ldW;eq_refl;(repeat first|exact In.here|apply In.there|apply In.skip);eq_refl)
|(apply G_alloc;eq_refl;intro _)
|(apply G_box;eq_refl;eq_refl;intro _)
|(apply G_stW;(first|exact wr_p|kernel_rfl);eq_refl;eq_refl;eq_refl;eq_refl;(repeat first|exact Upd.here|apply Upd.there|apply Upd.skip);eq_refl)
|(apply GX_pure;apply build66_0 <;> eq_refl))
  exact ⟨[], (by repeat first | exact Wk.nil | exact Wk.refl | (apply Wk.cons; (focus ((repeat first | exact Rem.here | apply Rem.there | apply Rem.skip); done))) | apply Wk.nilv | apply Wk.last | apply Wk.drop), rfl, rfl⟩
theorem looked16_cv {w : World} {c : Circ} {h js : Hd} {t most n : Int} (H : CirIn w c h js) (hn : 0 ≤ t → t ≤ most → 0 ≤ n ∧ n ≤ 600) : CVN Tryz.prog 37 [.agg (ccells c h).toArray, nu t, nu most, nu n] w fun v N => N = [] ∧ v = .tuple #[.agg (ccells c h).toArray, nu (ftE c t most n)] := by
  have hrd : ∀ Γ, In Γ (.old w none_) → ∀ w', Mem w' Γ → CVN Tryz.prog 36 [.agg (ccells c h).toArray] w' _ := fun Γ hi w' M => ready16_cv (H.chg (hi.old M))
  refine CVN.enterC1 (t := 66) 38 8 9 Tryz.func37 rfl rfl rfl rfl ?_
  by_cases he : (lookM c).2 = 0
  · have R := right_of H.at_ H.sane he
    have m0 := R.m0
    have m1 := R.m1
    rw [he] at hrd
    by_cases hr : t < 0 ∨ most < t
    · rw [ftE_rg he hr]
      by_cases h0 : t < 0
      · repeat' (first
|(apply G_call;eq_refl;eq_refl;(apply hrd;(repeat first|exact In.here|apply In.there|apply In.skip));rintro _ _ ⟨rfl, rfl⟩)
|(apply GC_seqK;intro K hK)
|(apply hK;clear hK K)
|(apply GC_block)
|(apply GC_region)
|(apply GL_nil)
|(apply thenG_normal)
|(apply thenG_ret)
|(apply blockG_ret)
|(apply GC_ret)
|(apply GC_if_true;eq_refl)
|(apply GC_if_false;eq_refl)
|(apply retGC1r;eq_refl;(repeat first|exact In.here|apply In.there|apply In.skip);eq_refl;eq_refl)
|(apply GL_on;eq_refl;eq_refl)
|(apply GL_off;eq_refl;eq_refl)
|(apply G_pv;eq_refl;first|exact trivial|omega)
|(apply G_ldW;eq_refl;(repeat first|exact In.here|apply In.there|apply In.skip);eq_refl)
|(apply G_cmpT;eq_refl;eq_refl;omega)
|(apply G_cmpF;eq_refl;eq_refl;omega)
|(apply G_alloc;eq_refl;intro _)
|(apply G_box;eq_refl;eq_refl;intro _)
|(apply G_stW;(first|exact wr_p|kernel_rfl);eq_refl;eq_refl;eq_refl;eq_refl;(repeat first|exact Upd.here|apply Upd.there|apply Upd.skip);eq_refl))
        exact ⟨[], (by repeat first | exact Wk.nil | exact Wk.refl | (apply Wk.cons; (focus ((repeat first | exact Rem.here | apply Rem.there | apply Rem.skip); done))) | apply Wk.nilv | apply Wk.last | apply Wk.drop), rfl, rfl⟩
      · repeat' (first
|(apply G_call;eq_refl;eq_refl;(apply hrd;(repeat first|exact In.here|apply In.there|apply In.skip));rintro _ _ ⟨rfl, rfl⟩)
|(apply GC_seqK;intro K hK)
|(apply hK;clear hK K)
|(apply GC_block)
|(apply GC_region)
|(apply GL_nil)
|(apply thenG_normal)
|(apply thenG_ret)
|(apply blockG_ret)
|(apply GC_ret)
|(apply GC_if_true;eq_refl)
|(apply GC_if_false;eq_refl)
|(apply retGC1r;eq_refl;(repeat first|exact In.here|apply In.there|apply In.skip);eq_refl;eq_refl)
|(apply GL_on;eq_refl;eq_refl)
|(apply G_pv;eq_refl;first|exact trivial|omega)
|(apply G_ldW;eq_refl;(repeat first|exact In.here|apply In.there|apply In.skip);eq_refl)
|(apply G_cmpT;eq_refl;eq_refl;omega)
|(apply G_cmpF;eq_refl;eq_refl;omega)
|(apply G_alloc;eq_refl;intro _)
|(apply G_box;eq_refl;eq_refl;intro _)
|(apply G_stW;(first|exact wr_p|kernel_rfl);eq_refl;eq_refl;eq_refl;eq_refl;(repeat first|exact Upd.here|apply Upd.there|apply Upd.skip);eq_refl))
        exact ⟨[], (by repeat first | exact Wk.nil | exact Wk.refl | (apply Wk.cons; (focus ((repeat first | exact Rem.here | apply Rem.there | apply Rem.skip); done))) | apply Wk.nilv | apply Wk.last | apply Wk.drop), rfl, rfl⟩
    · obtain ⟨n0, n1⟩ := hn (by omega) (by omega)
      obtain ⟨z0, z1⟩ := mul_le n0 n1 m0 m1
      have hv : ∀ Γ, ∀ w', Mem w' Γ → CVN Tryz.prog 45 [.agg (ccells c h).toArray, nu n] w' _ := fun Γ w' M => vars_cv (h := h) z0 z1
      by_cases hs : 262144 < 1 + n * c.max
      · rw [ftE_sz he hr hs]
        repeat' (first
|(apply G_call;eq_refl;eq_refl;(apply hrd;(repeat first|exact In.here|apply In.there|apply In.skip));rintro _ _ ⟨rfl, rfl⟩)
|(apply G_call;eq_refl;eq_refl;(apply hv);rintro _ _ ⟨rfl, rfl⟩)
|(apply GC_seqK;intro K hK)
|(apply hK;clear hK K)
|(apply GC_block)
|(apply GC_region)
|(apply GL_nil)
|(apply thenG_normal)
|(apply thenG_ret)
|(apply blockG_ret)
|(apply GC_ret)
|(apply GC_if_true;eq_refl)
|(apply GC_if_false;eq_refl)
|(apply retGC1r;eq_refl;(repeat first|exact In.here|apply In.there|apply In.skip);eq_refl;eq_refl)
|(apply GL_on;eq_refl;eq_refl)
|(apply G_pv;eq_refl;first|exact trivial|omega)
|(apply G_ldW;eq_refl;(repeat first|exact In.here|apply In.there|apply In.skip);eq_refl)
|(apply G_cmpT;eq_refl;eq_refl;omega)
|(apply G_cmpF;eq_refl;eq_refl;omega)
|(apply G_alloc;eq_refl;intro _)
|(apply G_box;eq_refl;eq_refl;intro _)
|(apply G_stW;(first|exact wr_p|kernel_rfl);eq_refl;eq_refl;eq_refl;eq_refl;(repeat first|exact Upd.here|apply Upd.there|apply Upd.skip);eq_refl))
        exact ⟨[], (by repeat first | exact Wk.nil | exact Wk.refl | (apply Wk.cons; (focus ((repeat first | exact Rem.here | apply Rem.there | apply Rem.skip); done))) | apply Wk.nilv | apply Wk.last | apply Wk.drop), rfl, rfl⟩
      · rw [ftE_ok he hr hs]
        repeat' (first
|(apply G_call;eq_refl;eq_refl;(apply hrd;(repeat first|exact In.here|apply In.there|apply In.skip));rintro _ _ ⟨rfl, rfl⟩)
|(apply G_call;eq_refl;eq_refl;(apply hv);rintro _ _ ⟨rfl, rfl⟩)
|(apply GC_seqK;intro K hK)
|(apply hK;clear hK K)
|(apply GC_block)
|(apply GC_region)
|(apply GL_nil)
|(apply thenG_normal)
|(apply blockG_normal)
|(apply GC_ret)
|(apply GC_skip)
|(apply GC_if_false;eq_refl)
|(apply retGC1r;eq_refl;(repeat first|exact In.here|apply In.there|apply In.skip);eq_refl;eq_refl)
|(apply GL_on;eq_refl;eq_refl)
|(apply G_pv;eq_refl;first|exact trivial|omega)
|(apply G_ldW;eq_refl;(repeat first|exact In.here|apply In.there|apply In.skip);eq_refl)
|(apply G_cmpF;eq_refl;eq_refl;omega)
|(apply G_alloc;eq_refl;intro _)
|(apply G_box;eq_refl;eq_refl;intro _)
|(apply G_stW;(first|exact wr_p|kernel_rfl);eq_refl;eq_refl;eq_refl;eq_refl;(repeat first|exact Upd.here|apply Upd.there|apply Upd.skip);eq_refl))
        exact ⟨[], (by repeat first | exact Wk.nil | exact Wk.refl | (apply Wk.cons; (focus ((repeat first | exact Rem.here | apply Rem.there | apply Rem.skip); done))) | apply Wk.nilv | apply Wk.last | apply Wk.drop), rfl, rfl⟩
  · rw [ftE_look he]
    generalize (lookM c).2 = ε at *
    repeat' (first
|(apply G_call;eq_refl;eq_refl;(apply hrd;(repeat first|exact In.here|apply In.there|apply In.skip));rintro _ _ ⟨rfl, rfl⟩)
|(apply GC_seqK;intro K hK)
|(apply hK;clear hK K)
|(apply GC_block)
|(apply GC_region)
|(apply GL_nil)
|(apply thenG_normal)
|(apply thenG_ret)
|(apply blockG_ret)
|(apply GC_ret)
|(apply GC_if_true;eq_refl)
|(apply retGC1r;eq_refl;(repeat first|exact In.here|apply In.there|apply In.skip);eq_refl;eq_refl)
|(apply GL_on;eq_refl;eq_refl)
|(apply G_pv;eq_refl;first|exact trivial|omega)
|(apply G_ldW;eq_refl;(repeat first|exact In.here|apply In.there|apply In.skip);eq_refl)
|(apply G_cmpT;eq_refl;eq_refl;omega)
|(apply G_alloc;eq_refl;intro _)
|(apply G_box;eq_refl;eq_refl;intro _)
|(apply G_stW;(first|exact wr_p|kernel_rfl);eq_refl;eq_refl;eq_refl;eq_refl;(repeat first|exact Upd.here|apply Upd.there|apply Upd.skip);eq_refl))
    exact ⟨[], (by repeat first | exact Wk.nil | exact Wk.refl | (apply Wk.cons; (focus ((repeat first | exact Rem.here | apply Rem.there | apply Rem.skip); done))) | apply Wk.nilv | apply Wk.last | apply Wk.drop), rfl, rfl⟩
theorem stepF_cv {w : World} {c : Circ} {h js : Hd} {t : Int} (R : Right c) (H : CirAt w c h js) (t0 : 0 ≤ t) (t1 : t ≤ 600) : CVN Tryz.prog 40 [.agg (ccells c h).toArray, nu t] w (CliR (stepS c t)) := by
  have n3 := R.nAnd
  have n4 := R.nCon
  have lg := gatesS_len c t
  have lc := consS_len c t
  have hg : ∀ Γ, In Γ (.old w none_) → ∀ w', Mem w' Γ → CVN Tryz.prog 65 ([.agg (ccells c h).toArray, nu t] ++ (#[] : Array Value).toList) w' _ := fun Γ hi w' M => gatesS_cv R (H.chg (hi.old M)) t0 t1
  have hc : ∀ Γ, In Γ (.old w none_) → ∀ w', Mem w' Γ → CVN Tryz.prog 66 ([.agg (ccells c h).toArray, nu t] ++ (#[] : Array Value).toList) w' _ := fun Γ hi w' M => consS_cv R (H.chg (hi.old M)) t0 t1
  refine CVN.enter 20 [4] Tryz.func40 rfl rfl rfl (by decide) rfl ?_
  repeat' (first
|(apply GC_seqK;intro K hK)
|(apply hK;clear hK K)
|(apply GC_block)
|(apply GC_region)
|(apply GL_nil)
|(apply thenG_normal)
|(apply GL_on;eq_refl;eq_refl)
|(apply G_pv;eq_refl;first|exact trivial|omega)
|(apply G_box;eq_refl;eq_refl;intro _)
|(apply GX_pure;apply build119_0_1 <;> eq_refl))
  rename_i b2
  refine GC_loopK [1, 2, 8] (fun s : Nat × List (Hdl × List Int) × Option Addr × Nat => [(5, .slice s.2.2.1 s.2.1.length s.2.2.2), (9, nu s.1)]) (fun s => [.any (bun (fam rowJ s.2.1)), .vec encS 1 60 s.2.2.1 s.2.2.2 s.2.1, .box b2 66 (ccells c h), .old w none_])
    (fun s => s.1 ≤ 2 ∧ s.2.1.map (·.2) = (if s.1 = 0 then [] else if s.1 = 1 then gatesS c t else stepS c t)) (fun s => 2 - s.1) (0, [], none, 0) (by repeat first | exact Pick.nil | (apply Pick.cons; eq_refl)) (by repeat first | exact trivial | refine ⟨rfl, ?_⟩) (rows_nil (Wk.nilv (by repeat first | exact Wk.nil | exact Wk.refl | (apply Wk.cons; (focus ((repeat first | exact Rem.here | apply Rem.there | apply Rem.skip); done))) | apply Wk.nilv | apply Wk.last | apply Wk.drop))) ⟨Nat.zero_le _, rfl⟩ ?_
  rintro ⟨i, ps, A, kA⟩ ⟨hi, hps⟩
  dsimp only at hi hps ⊢
  obtain rfl | rfl | rfl : i = 0 ∨ i = 1 ∨ i = 2 := by omega
  · have hp0 : ps = [] := by simpa using hps
    subst hp0
    repeat' (first
|(apply G_index (elem := 118) (k := 2);kernel_rfl;eq_refl;eq_refl;omega;omega;eq_refl)
|(apply G_callF;eq_refl;eq_refl;infer_instance;eq_refl;(apply hg;(repeat first|exact In.here|apply In.there|apply In.skip));rintro _ _ ⟨qs, B, kB, rfl, hqs, rfl⟩)
|(apply G_appV (enc := encS);(first|exact wr_p|kernel_rfl);eq_refl;eq_refl;(intro A c;(repeat first|exact Upd.here|apply Upd.there|apply Upd.skip));infer_instance;(repeat first|exact In.here|apply In.there|apply In.skip);eq_refl;eq_refl;eq_refl;(have := congrArg List.length hqs;rw [List.length_map] at this;(try simp only [List.length_nil]);omega);decide;intro A9 k9)
|(apply GC_seqK;intro K hK)
|(apply hK;clear hK K)
|(apply GC_block)
|(apply GC_region)
|(apply GL_nil)
|(apply thenG_normal)
|(apply blockG_normal)
|(apply GC_skip)
|(apply GC_if_true;eq_refl)
|(apply GL_on;eq_refl;eq_refl)
|(apply G_pv;eq_refl;first|exact trivial|omega)
|(apply G_ldW;eq_refl;(repeat first|exact In.here|apply In.there|apply In.skip);eq_refl)
|(apply G_cmpT;eq_refl;eq_refl;omega))
    exact ⟨(1, [] ++ qs, A9, k9), (by repeat first | exact trivial | refine ⟨rfl, ?_⟩), (by dsimp only; exact Wk.rows (by repeat first | exact Rem.here | apply Rem.there | apply Rem.skip) (by repeat first | exact Rem.here | apply Rem.there | apply Rem.skip) (by repeat first | exact Wk.nil | exact Wk.refl | (apply Wk.cons; (focus ((repeat first | exact Rem.here | apply Rem.there | apply Rem.skip); done))) | apply Wk.nilv | apply Wk.last | apply Wk.drop)), ⟨by simp only; omega, hqs⟩, by simp only; omega⟩
  · have hpl : ps.length = 3 * c.ands.length := by have := congrArg List.length hps; rw [List.length_map] at this; rw [this]; exact lg
    repeat' (first
|(apply G_index (elem := 118) (k := 2);kernel_rfl;eq_refl;eq_refl;omega;omega;eq_refl)
|(apply G_callF;eq_refl;eq_refl;infer_instance;eq_refl;(apply hc;(repeat first|exact In.here|apply In.there|apply In.skip));rintro _ _ ⟨qs, B, kB, rfl, hqs, rfl⟩)
|(apply G_appV (enc := encS);(first|exact wr_p|kernel_rfl);eq_refl;eq_refl;(intro A c;(repeat first|exact Upd.here|apply Upd.there|apply Upd.skip));infer_instance;(repeat first|exact In.here|apply In.there|apply In.skip);eq_refl;eq_refl;eq_refl;(have := congrArg List.length hqs;rw [List.length_map] at this;(try simp only [List.length_nil]);omega);decide;intro A9 k9)
|(apply GC_seqK;intro K hK)
|(apply hK;clear hK K)
|(apply GC_block)
|(apply GC_region)
|(apply GL_nil)
|(apply thenG_normal)
|(apply blockG_normal)
|(apply GC_skip)
|(apply GC_if_true;eq_refl)
|(apply GL_on;eq_refl;eq_refl)
|(apply G_pv;eq_refl;first|exact trivial|omega)
|(apply G_ldW;eq_refl;(repeat first|exact In.here|apply In.there|apply In.skip);eq_refl)
|(apply G_cmpT;eq_refl;eq_refl;omega))
    exact ⟨(2, ps ++ qs, A9, k9), (by repeat first | exact trivial | refine ⟨rfl, ?_⟩), (by dsimp only; exact Wk.rows (by repeat first | exact Rem.here | apply Rem.there | apply Rem.skip) (by repeat first | exact Rem.here | apply Rem.there | apply Rem.skip) (by repeat first | exact Wk.nil | exact Wk.refl | (apply Wk.cons; (focus ((repeat first | exact Rem.here | apply Rem.there | apply Rem.skip); done))) | apply Wk.nilv | apply Wk.last | apply Wk.drop)), ⟨by simp only; omega, by simp only; rw [List.map_append, hps, hqs]; rfl⟩, by simp only; omega⟩
  · repeat' (first
|(apply GC_seqK;intro K hK)
|(apply hK;clear hK K)
|(clear hK K;apply hK;clear hK K)
|(apply GC_region)
|(apply GL_nil)
|(apply thenG_normal)
|(apply thenG_exit)
|(apply blockG_hit)
|(apply GC_ret)
|(apply GC_exit)
|(apply GC_if_false;eq_refl)
|(apply retG1;eq_refl)
|(apply GL_on;eq_refl;eq_refl)
|(apply G_pv;eq_refl;first|exact trivial|omega)
|(apply G_cmpF;eq_refl;eq_refl;omega))
    exact ⟨[.vec encS 1 60 A kA ps, .any (bun (fam rowJ ps))], (by repeat first | exact Wk.nil | exact Wk.refl | (apply Wk.cons; (focus ((repeat first | exact Rem.here | apply Rem.there | apply Rem.skip); done))) | apply Wk.nilv | apply Wk.last | apply Wk.drop), ps, A, kA, rfl, hps, rfl⟩
end SC
end Go.Proofs.YtbmngkdnebklpaaGreat
end
section
/- frames: Step, Next; the reference's. -/
set_option linter.unusedVariables false
set_option linter.unusedSimpArgs false
namespace Go.Proofs.YtbmngkdnebklpaaGreat
namespace SC
open Go.Proofs
attribute [local irreducible] WC WL WX WS WO OX Does DoesU Enters CV Pure thenQ blockQ retQ Wants retQC GC GL GS GX RdB thenG blockG retG Rd At gt CVN CVM
set_option maxRecDepth 100000
end SC
end Go.Proofs.YtbmngkdnebklpaaGreat
end
section
/- frames: First, Lit, Vars; the reference's. -/
set_option linter.unusedVariables false
set_option linter.unusedSimpArgs false
namespace Go.Proofs.YtbmngkdnebklpaaGreat
namespace SC
open Go.Proofs
/-- What is wrong with a literal at a step. -/
noncomputable def ltE (c : Circ) (l t : Int) : Int := if (lookM c).2 ≠ 0 then (lookM c).2 else if l < 0 ∨ 2 * c.max + 1 < l then 1 else ftE c t 511 (t + 1)
noncomputable def ltM (c : Circ) (l t : Int) : Int := if ltE c l t = 0 then atM c.max l t else 0
noncomputable def vrM (c : Circ) (n : Int) : Int := if vrE c n = 0 then 1 + n * c.max else 0
theorem ltE_look {c : Circ} {l t : Int} (h : (lookM c).2 ≠ 0) : ltE c l t = (lookM c).2 := if_pos h
theorem ltE_rg {c : Circ} {l t : Int} (h : (lookM c).2 = 0) (h2 : l < 0 ∨ 2 * c.max + 1 < l) : ltE c l t = 1 := by unfold ltE; rw [if_neg (by omega), if_pos h2]
theorem ltE_in {c : Circ} {l t : Int} (h : (lookM c).2 = 0) (h2 : ¬ (l < 0 ∨ 2 * c.max + 1 < l)) : ltE c l t = ftE c t 511 (t + 1) := by unfold ltE; rw [if_neg (by omega), if_neg h2]
theorem ltM_no {c : Circ} {l t : Int} (h : ltE c l t ≠ 0) : ltM c l t = 0 := if_neg h
theorem ltM_ok {c : Circ} {l t : Int} (h : ltE c l t = 0) : ltM c l t = atM c.max l t := if_pos h
theorem vrE_look {c : Circ} {n : Int} (h : (lookM c).2 ≠ 0) : vrE c n = (lookM c).2 := if_pos h
theorem vrE_rg {c : Circ} {n : Int} (h : (lookM c).2 = 0) (h2 : n < 1 ∨ 512 < n) : vrE c n = 1 := by unfold vrE; rw [if_neg (by omega), if_pos h2]
theorem vrE_sz {c : Circ} {n : Int} (h : (lookM c).2 = 0) (h2 : ¬ (n < 1 ∨ 512 < n)) (h3 : 262144 < 1 + n * c.max) : vrE c n = 6 := by unfold vrE; rw [if_neg (by omega), if_neg h2, if_pos h3]
theorem vrE_ok {c : Circ} {n : Int} (h : (lookM c).2 = 0) (h2 : ¬ (n < 1 ∨ 512 < n)) (h3 : ¬ 262144 < 1 + n * c.max) : vrE c n = 0 := by unfold vrE; rw [if_neg (by omega), if_neg h2, if_neg h3]
theorem vrE_ft {c : Circ} {n : Int} (h2 : ¬ (n < 1 ∨ 512 < n)) : ftE c (n - 1) 511 n = vrE c n := by
  unfold vrE ftE
  split
  · rfl
  · first
    | rw [if_neg h2, if_neg (show ¬ (n - 1 < 0 ∨ 511 < n - 1) by omega)]
    | rw [if_neg (show ¬ (n - 1 < 0 ∨ 511 < n - 1) by omega)]
theorem vrE_zero {c : Circ} {n : Int} (h : vrE c n = 0) : (lookM c).2 = 0 ∧ 1 ≤ n ∧ n ≤ 512 ∧ 1 + n * c.max ≤ 262144 := by
  unfold vrE at h
  split at h
  · exact absurd h (by assumption)
  · split at h
    · cases h
    · split at h
      · cases h
      · exact ⟨by omega, by omega, by omega, by omega⟩
theorem vrM_no {c : Circ} {n : Int} (h : vrE c n ≠ 0) : vrM c n = 0 := if_neg h
theorem vrM_ok {c : Circ} {n : Int} (h : vrE c n = 0) : vrM c n = 1 + n * c.max := if_pos h
attribute [local irreducible] WC WL WX WS WO OX Does DoesU Enters CV Pure thenQ blockQ retQ Wants retQC GC GL GS GX RdB thenG blockG retG Rd At gt CVN CVM
set_option maxRecDepth 100000
theorem LitP16_cv {w : World} {c : Circ} {h js : Hd} {l t : Int} (H : CirIn w c h js) (hx : -9223372036854775808 ≤ t ∧ t ≤ 9223372036854775807) : CVN Tryz.prog 17 [.agg (ccells c h).toArray, nu l, nu t] w fun v N => N = [] ∧ v = .tuple #[nu (ltM c l t), nu (ltE c l t)] := by
  have hrd : ∀ Γ, In Γ (.old w none_) → ∀ w', Mem w' Γ → CVN Tryz.prog 36 [.agg (ccells c h).toArray] w' _ := fun Γ hi w' M => ready16_cv (H.chg (hi.old M))
  have hlk : ∀ n, (n = t + 1 ∨ 511 < t) → ∀ Γ, In Γ (.old w none_) → ∀ w', Mem w' Γ → CVN Tryz.prog 37 [.agg (ccells c h).toArray, nu t, nu 511, nu n] w' fun v N => N = [] ∧ v = .tuple #[.agg (ccells c h).toArray, nu (ftE c t 511 (t + 1))] := fun n hn Γ hi w' M => by
    have := looked16_cv (t := t) (most := 511) (n := n) (H.chg (hi.old M)) (fun h0 h1 => by omega)
    rcases hn with rfl | hb
    · exact this
    · rw [ftE_n n (t + 1) (.inr hb)] at this
      exact this
  refine CVN.enter 43 [6, 7] Tryz.func17 rfl rfl rfl (by decide) rfl ?_
  by_cases he : (lookM c).2 = 0
  · have R := right_of H.at_ H.sane he
    have m0 := R.m0
    have m1 := R.m1
    rw [he] at hrd
    by_cases hl : l < 0 ∨ 2 * c.max + 1 < l
    · have hz := ltE_rg (t := t) he hl
      rw [ltM_no (by rw [hz]; decide), hz]
      by_cases h0 : l < 0
      · repeat' (first
|(apply G_call;eq_refl;eq_refl;(apply hrd;(repeat first|exact In.here|apply In.there|apply In.skip));rintro _ _ ⟨rfl, rfl⟩)
|(apply GC_seqK;intro K hK)
|(apply hK;clear hK K)
|(apply GC_region)
|(apply GL_nil)
|(apply thenG_normal)
|(apply thenG_ret)
|(apply GC_ret)
|(apply GC_skip)
|(apply GC_if_true;eq_refl)
|(apply GC_if_false;eq_refl)
|(apply retG2;eq_refl;eq_refl)
|(apply GL_on;eq_refl;eq_refl)
|(apply GL_off;eq_refl;eq_refl)
|(apply G_pv;eq_refl;first|exact trivial|omega)
|(apply G_ldW;eq_refl;(repeat first|exact In.here|apply In.there|apply In.skip);eq_refl)
|(apply G_cmpT;eq_refl;eq_refl;omega)
|(apply G_cmpF;eq_refl;eq_refl;omega)
|(apply G_alloc;eq_refl;intro _)
|(apply G_box;eq_refl;eq_refl;intro _)
|(apply G_stW;(first|exact wr_p|kernel_rfl);eq_refl;eq_refl;eq_refl;eq_refl;(repeat first|exact Upd.here|apply Upd.there|apply Upd.skip);eq_refl))
        exact ⟨[], (by repeat first | exact Wk.nil | exact Wk.refl | (apply Wk.cons; (focus ((repeat first | exact Rem.here | apply Rem.there | apply Rem.skip); done))) | apply Wk.nilv | apply Wk.last | apply Wk.drop), rfl, rfl⟩
      · repeat' (first
|(apply G_call;eq_refl;eq_refl;(apply hrd;(repeat first|exact In.here|apply In.there|apply In.skip));rintro _ _ ⟨rfl, rfl⟩)
|(apply GC_seqK;intro K hK)
|(apply hK;clear hK K)
|(apply GC_region)
|(apply GL_nil)
|(apply thenG_normal)
|(apply thenG_ret)
|(apply GC_ret)
|(apply GC_skip)
|(apply GC_if_true;eq_refl)
|(apply GC_if_false;eq_refl)
|(apply retG2;eq_refl;eq_refl)
|(apply GL_on;eq_refl;eq_refl)
|(apply G_pv;eq_refl;first|exact trivial|omega)
|(apply G_field;eq_refl)
|(apply G_ld;eq_refl;(repeat first|exact In.here|apply In.there|apply In.skip);eq_refl)
|(apply G_ldW;eq_refl;(repeat first|exact In.here|apply In.there|apply In.skip);eq_refl)
|(apply G_cmpT;eq_refl;eq_refl;omega)
|(apply G_cmpF;eq_refl;eq_refl;omega)
|(apply G_alloc;eq_refl;intro _)
|(apply G_box;eq_refl;eq_refl;intro _)
|(apply G_stW;(first|exact wr_p|kernel_rfl);eq_refl;eq_refl;eq_refl;eq_refl;(repeat first|exact Upd.here|apply Upd.there|apply Upd.skip);eq_refl))
        exact ⟨[], (by repeat first | exact Wk.nil | exact Wk.refl | (apply Wk.cons; (focus ((repeat first | exact Rem.here | apply Rem.there | apply Rem.skip); done))) | apply Wk.nilv | apply Wk.last | apply Wk.drop), rfl, rfl⟩
    · have hz := ltE_in (t := t) he hl
      by_cases hf : ftE c t 511 (t + 1) = 0
      · obtain ⟨_, t0, t1, _⟩ := ftE_zero hf
        obtain ⟨z0, z1⟩ := mul_le t0 (by omega : t ≤ 600) m0 m1
        rw [hf] at hz hlk
        have hat : ∀ Γ, ∀ w', Mem w' Γ → CVN Tryz.prog 22 [.agg (ccells c h).toArray, nu l, nu t] w' _ := fun Γ w' M => at_cv (h := h) (by omega) (by omega) z0 z1
        rw [ltM_ok hz, hz]
        repeat' (first
|(apply G_call;eq_refl;eq_refl;(apply hrd;(repeat first|exact In.here|apply In.there|apply In.skip));rintro _ _ ⟨rfl, rfl⟩)
|(apply G_call;eq_refl;eq_refl;(apply (hlk _ (.inl rfl));(repeat first|exact In.here|apply In.there|apply In.skip));rintro _ _ ⟨rfl, rfl⟩)
|(apply G_call;eq_refl;eq_refl;(apply hat);rintro _ _ ⟨rfl, rfl⟩)
|(apply GC_seqK;intro K hK)
|(apply hK;clear hK K)
|(apply GC_region)
|(apply GL_nil)
|(apply thenG_normal)
|(apply GC_ret)
|(apply GC_skip)
|(apply GC_if_false;eq_refl)
|(apply retG2;eq_refl;eq_refl)
|(apply GL_on;eq_refl;eq_refl)
|(apply G_pv;eq_refl;first|exact trivial|omega)
|(apply G_field;eq_refl)
|(apply G_ld;eq_refl;(repeat first|exact In.here|apply In.there|apply In.skip);eq_refl)
|(apply G_ldW;eq_refl;(repeat first|exact In.here|apply In.there|apply In.skip);eq_refl)
|(apply G_cmpF;eq_refl;eq_refl;omega)
|(apply G_alloc;eq_refl;intro _)
|(apply G_box;eq_refl;eq_refl;intro _)
|(apply G_stW;(first|exact wr_p|kernel_rfl);eq_refl;eq_refl;eq_refl;eq_refl;(repeat first|exact Upd.here|apply Upd.there|apply Upd.skip);eq_refl))
        exact ⟨[], (by repeat first | exact Wk.nil | exact Wk.refl | (apply Wk.cons; (focus ((repeat first | exact Rem.here | apply Rem.there | apply Rem.skip); done))) | apply Wk.nilv | apply Wk.last | apply Wk.drop), rfl, rfl⟩
      · rw [ltM_no (by rw [hz]; exact hf), hz]
        generalize ftE c t 511 (t + 1) = ε at *
        by_cases hb : 511 < t
        · repeat' (first
|(apply G_call;eq_refl;eq_refl;(apply hrd;(repeat first|exact In.here|apply In.there|apply In.skip));rintro _ _ ⟨rfl, rfl⟩)
|(apply GC_seqK;intro K hK)
|(apply hK;clear hK K)
|(apply GC_region)
|(apply GL_nil)
|(apply thenG_normal)
|(apply GC_skip)
|(apply GC_if_false;eq_refl)
|(apply GL_on;eq_refl;eq_refl)
|(apply G_pv;eq_refl;first|exact trivial|omega)
|(apply G_field;eq_refl)
|(apply G_ld;eq_refl;(repeat first|exact In.here|apply In.there|apply In.skip);eq_refl)
|(apply G_ldW;eq_refl;(repeat first|exact In.here|apply In.there|apply In.skip);eq_refl)
|(apply G_cmpF;eq_refl;eq_refl;omega)
|(apply G_alloc;eq_refl;intro _)
|(apply G_box;eq_refl;eq_refl;intro _)
|(apply G_stW;(first|exact wr_p|kernel_rfl);eq_refl;eq_refl;eq_refl;eq_refl;(repeat first|exact Upd.here|apply Upd.there|apply Upd.skip);eq_refl))
          all_goals (try (apply G_addW; eq_refl; eq_refl))
          repeat' (first
|(apply G_call;eq_refl;eq_refl;(apply (hlk _ (.inr hb));(repeat first|exact In.here|apply In.there|apply In.skip));rintro _ _ ⟨rfl, rfl⟩)
|(apply GC_seqK;intro K hK)
|(apply hK;clear hK K)
|(apply GC_region)
|(apply GL_nil)
|(apply thenG_normal)
|(apply thenG_ret)
|(apply GC_ret)
|(apply GC_if_true;eq_refl)
|(apply retG2;eq_refl;eq_refl)
|(apply GL_on;eq_refl;eq_refl)
|(apply G_pv;eq_refl;first|exact trivial|omega)
|(apply G_cmpT;eq_refl;eq_refl;omega)
|(apply G_stW;(first|exact wr_p|kernel_rfl);eq_refl;eq_refl;eq_refl;eq_refl;(repeat first|exact Upd.here|apply Upd.there|apply Upd.skip);eq_refl))
          exact ⟨[], (by repeat first | exact Wk.nil | exact Wk.refl | (apply Wk.cons; (focus ((repeat first | exact Rem.here | apply Rem.there | apply Rem.skip); done))) | apply Wk.nilv | apply Wk.last | apply Wk.drop), rfl, rfl⟩
        · repeat' (first
|(apply G_call;eq_refl;eq_refl;(apply hrd;(repeat first|exact In.here|apply In.there|apply In.skip));rintro _ _ ⟨rfl, rfl⟩)
|(apply G_call;eq_refl;eq_refl;(apply (hlk _ (.inl rfl));(repeat first|exact In.here|apply In.there|apply In.skip));rintro _ _ ⟨rfl, rfl⟩)
|(apply GC_seqK;intro K hK)
|(apply hK;clear hK K)
|(apply GC_region)
|(apply GL_nil)
|(apply thenG_normal)
|(apply thenG_ret)
|(apply GC_ret)
|(apply GC_skip)
|(apply GC_if_true;eq_refl)
|(apply GC_if_false;eq_refl)
|(apply retG2;eq_refl;eq_refl)
|(apply GL_on;eq_refl;eq_refl)
|(apply G_pv;eq_refl;first|exact trivial|omega)
|(apply G_field;eq_refl)
|(apply G_ld;eq_refl;(repeat first|exact In.here|apply In.there|apply In.skip);eq_refl)
|(apply G_ldW;eq_refl;(repeat first|exact In.here|apply In.there|apply In.skip);eq_refl)
|(apply G_cmpT;eq_refl;eq_refl;omega)
|(apply G_cmpF;eq_refl;eq_refl;omega)
|(apply G_alloc;eq_refl;intro _)
|(apply G_box;eq_refl;eq_refl;intro _)
|(apply G_stW;(first|exact wr_p|kernel_rfl);eq_refl;eq_refl;eq_refl;eq_refl;(repeat first|exact Upd.here|apply Upd.there|apply Upd.skip);eq_refl))
          exact ⟨[], (by repeat first | exact Wk.nil | exact Wk.refl | (apply Wk.cons; (focus ((repeat first | exact Rem.here | apply Rem.there | apply Rem.skip); done))) | apply Wk.nilv | apply Wk.last | apply Wk.drop), rfl, rfl⟩
  · have hz := ltE_look (l := l) (t := t) he
    rw [ltM_no (by rw [hz]; exact he), hz]
    generalize (lookM c).2 = ε at *
    repeat' (first
|(apply G_call;eq_refl;eq_refl;(apply hrd;(repeat first|exact In.here|apply In.there|apply In.skip));rintro _ _ ⟨rfl, rfl⟩)
|(apply GC_seqK;intro K hK)
|(apply hK;clear hK K)
|(apply GC_region)
|(apply GL_nil)
|(apply thenG_normal)
|(apply thenG_ret)
|(apply GC_ret)
|(apply GC_if_true;eq_refl)
|(apply retG2;eq_refl;eq_refl)
|(apply GL_on;eq_refl;eq_refl)
|(apply G_pv;eq_refl;first|exact trivial|omega)
|(apply G_ldW;eq_refl;(repeat first|exact In.here|apply In.there|apply In.skip);eq_refl)
|(apply G_cmpT;eq_refl;eq_refl;omega)
|(apply G_alloc;eq_refl;intro _)
|(apply G_box;eq_refl;eq_refl;intro _)
|(apply G_stW;(first|exact wr_p|kernel_rfl);eq_refl;eq_refl;eq_refl;eq_refl;(repeat first|exact Upd.here|apply Upd.there|apply Upd.skip);eq_refl))
    exact ⟨[], (by repeat first | exact Wk.nil | exact Wk.refl | (apply Wk.cons; (focus ((repeat first | exact Rem.here | apply Rem.there | apply Rem.skip); done))) | apply Wk.nilv | apply Wk.last | apply Wk.drop), rfl, rfl⟩
theorem many16_cv {w : World} {c : Circ} {h js : Hd} {n : Int} (H : CirIn w c h js) (n0 : 0 ≤ n) (n1 : n ≤ 512) : CVN Tryz.prog 44 [.agg (ccells c h).toArray, nu n] w fun v N => N = [] ∧ v = .tuple #[.agg (ccells c h).toArray, nu (ftE c (n - 1) 511 n)] := by
  have hlk : ∀ Γ, In Γ (.old w none_) → ∀ w', Mem w' Γ → CVN Tryz.prog 37 [.agg (ccells c h).toArray, nu (n - 1), nu 511, nu n] w' _ := fun Γ hi w' M => looked16_cv (t := n - 1) (most := 511) (n := n) (H.chg (hi.old M)) (fun h0 h1 => by omega)
  generalize ftE c (n - 1) 511 n = ε at *
  refine CVN.enterC1 (t := 66) 13 4 5 Tryz.func44 rfl rfl rfl rfl ?_
  repeat' (first
|(apply G_call;eq_refl;eq_refl;(apply hlk;(repeat first|exact In.here|apply In.there|apply In.skip));rintro _ _ ⟨rfl, rfl⟩)
|(apply GC_seqK;intro K hK)
|(apply hK;clear hK K)
|(apply GC_region)
|(apply GL_nil)
|(apply thenG_normal)
|(apply GC_ret)
|(apply retGC1r;eq_refl;(repeat first|exact In.here|apply In.there|apply In.skip);eq_refl;eq_refl)
|(apply GL_on;eq_refl;eq_refl)
|(apply G_pv;eq_refl;first|exact trivial|omega)
|(apply G_ldW;eq_refl;(repeat first|exact In.here|apply In.there|apply In.skip);eq_refl)
|(apply G_alloc;eq_refl;intro _)
|(apply G_box;eq_refl;eq_refl;intro _)
|(apply G_stW;(first|exact wr_p|kernel_rfl);eq_refl;eq_refl;eq_refl;eq_refl;(repeat first|exact Upd.here|apply Upd.there|apply Upd.skip);eq_refl))
  exact ⟨[], (by repeat first | exact Wk.nil | exact Wk.refl | (apply Wk.cons; (focus ((repeat first | exact Rem.here | apply Rem.there | apply Rem.skip); done))) | apply Wk.nilv | apply Wk.last | apply Wk.drop), rfl, rfl⟩
theorem VarsP16_cv {w : World} {c : Circ} {h js : Hd} {n : Int} (H : CirIn w c h js) : CVN Tryz.prog 21 [.agg (ccells c h).toArray, nu n] w fun v N => N = [] ∧ v = .tuple #[nu (vrM c n), nu (vrE c n)] := by
  refine CVN.enter 26 [4, 5] Tryz.func21 rfl rfl rfl (by decide) rfl ?_
  by_cases hr : n < 1 ∨ 512 < n
  · have hz : vrE c n ≠ 0 := fun h => by have := vrE_zero h; omega
    have hm : ∀ Γ, In Γ (.old w none_) → ∀ w', Mem w' Γ → CVN Tryz.prog 44 [.agg (ccells c h).toArray, nu 0] w' fun v N => N = [] ∧ v = .tuple #[.agg (ccells c h).toArray, nu (vrE c n)] := fun Γ hi w' M => by
      have e : ftE c (0 - 1) 511 0 = vrE c n := by
        by_cases he : (lookM c).2 = 0
        · rw [ftE_rg he (by omega), vrE_rg he hr]
        · rw [ftE_look he, vrE_look he]
      have := many16_cv (n := 0) (H.chg (hi.old M)) (by omega) (by omega)
      rw [e] at this
      exact this
    rw [vrM_no hz]
    generalize vrE c n = ε at *
    by_cases h0 : n < 1
    · repeat' (first
|(apply G_call;eq_refl;eq_refl;(apply hm;(repeat first|exact In.here|apply In.there|apply In.skip));rintro _ _ ⟨rfl, rfl⟩)
|(apply GC_seqK;intro K hK)
|(apply hK;clear hK K)
|(apply GC_region)
|(apply GL_nil)
|(apply thenG_normal)
|(apply thenG_ret)
|(apply GC_ret)
|(apply GC_if_true;eq_refl)
|(apply retG2;eq_refl;eq_refl)
|(apply GL_on;eq_refl;eq_refl)
|(apply GL_off;eq_refl;eq_refl)
|(apply G_pv;eq_refl;first|exact trivial|omega)
|(apply G_ldW;eq_refl;(repeat first|exact In.here|apply In.there|apply In.skip);eq_refl)
|(apply G_cmpT;eq_refl;eq_refl;omega)
|(apply G_alloc;eq_refl;intro _)
|(apply G_box;eq_refl;eq_refl;intro _)
|(apply G_stW;(first|exact wr_p|kernel_rfl);eq_refl;eq_refl;eq_refl;eq_refl;(repeat first|exact Upd.here|apply Upd.there|apply Upd.skip);eq_refl))
      exact ⟨[], (by repeat first | exact Wk.nil | exact Wk.refl | (apply Wk.cons; (focus ((repeat first | exact Rem.here | apply Rem.there | apply Rem.skip); done))) | apply Wk.nilv | apply Wk.last | apply Wk.drop), rfl, rfl⟩
    · repeat' (first
|(apply G_call;eq_refl;eq_refl;(apply hm;(repeat first|exact In.here|apply In.there|apply In.skip));rintro _ _ ⟨rfl, rfl⟩)
|(apply GC_seqK;intro K hK)
|(apply hK;clear hK K)
|(apply GC_region)
|(apply GL_nil)
|(apply thenG_normal)
|(apply thenG_ret)
|(apply GC_ret)
|(apply GC_if_true;eq_refl)
|(apply retG2;eq_refl;eq_refl)
|(apply GL_on;eq_refl;eq_refl)
|(apply G_pv;eq_refl;first|exact trivial|omega)
|(apply G_ldW;eq_refl;(repeat first|exact In.here|apply In.there|apply In.skip);eq_refl)
|(apply G_cmpT;eq_refl;eq_refl;omega)
|(apply G_cmpF;eq_refl;eq_refl;omega)
|(apply G_alloc;eq_refl;intro _)
|(apply G_box;eq_refl;eq_refl;intro _)
|(apply G_stW;(first|exact wr_p|kernel_rfl);eq_refl;eq_refl;eq_refl;eq_refl;(repeat first|exact Upd.here|apply Upd.there|apply Upd.skip);eq_refl))
      exact ⟨[], (by repeat first | exact Wk.nil | exact Wk.refl | (apply Wk.cons; (focus ((repeat first | exact Rem.here | apply Rem.there | apply Rem.skip); done))) | apply Wk.nilv | apply Wk.last | apply Wk.drop), rfl, rfl⟩
  · have hm : ∀ Γ, In Γ (.old w none_) → ∀ w', Mem w' Γ → CVN Tryz.prog 44 [.agg (ccells c h).toArray, nu n] w' fun v N => N = [] ∧ v = .tuple #[.agg (ccells c h).toArray, nu (vrE c n)] := fun Γ hi w' M => by
      have := many16_cv (n := n) (H.chg (hi.old M)) (by omega) (by omega)
      rw [vrE_ft hr] at this
      exact this
    by_cases hz : vrE c n = 0
    · have he := (vrE_zero hz).1
      have R := right_of H.at_ H.sane he
      have m0 := R.m0
      have m1 := R.m1
      obtain ⟨z0, z1⟩ := mul_le (by omega : 0 ≤ n) (by omega : n ≤ 600) m0 m1
      have hv : ∀ Γ, ∀ w', Mem w' Γ → CVN Tryz.prog 45 [.agg (ccells c h).toArray, nu n] w' _ := fun Γ w' M => vars_cv (h := h) z0 z1
      rw [vrM_ok hz, hz]
      rw [hz] at hm
      repeat' (first
|(apply G_call;eq_refl;eq_refl;(apply hm;(repeat first|exact In.here|apply In.there|apply In.skip));rintro _ _ ⟨rfl, rfl⟩)
|(apply G_call;eq_refl;eq_refl;(apply hv);rintro _ _ ⟨rfl, rfl⟩)
|(apply GC_seqK;intro K hK)
|(apply hK;clear hK K)
|(apply GC_region)
|(apply GL_nil)
|(apply thenG_normal)
|(apply GC_ret)
|(apply GC_skip)
|(apply GC_if_false;eq_refl)
|(apply retG2;eq_refl;eq_refl)
|(apply GL_on;eq_refl;eq_refl)
|(apply G_pv;eq_refl;first|exact trivial|omega)
|(apply G_ldW;eq_refl;(repeat first|exact In.here|apply In.there|apply In.skip);eq_refl)
|(apply G_cmpF;eq_refl;eq_refl;omega)
|(apply G_alloc;eq_refl;intro _)
|(apply G_box;eq_refl;eq_refl;intro _)
|(apply G_stW;(first|exact wr_p|kernel_rfl);eq_refl;eq_refl;eq_refl;eq_refl;(repeat first|exact Upd.here|apply Upd.there|apply Upd.skip);eq_refl))
      exact ⟨[], (by repeat first | exact Wk.nil | exact Wk.refl | (apply Wk.cons; (focus ((repeat first | exact Rem.here | apply Rem.there | apply Rem.skip); done))) | apply Wk.nilv | apply Wk.last | apply Wk.drop), rfl, rfl⟩
    · rw [vrM_no hz]
      generalize vrE c n = ε at *
      repeat' (first
|(apply G_call;eq_refl;eq_refl;(apply hm;(repeat first|exact In.here|apply In.there|apply In.skip));rintro _ _ ⟨rfl, rfl⟩)
|(apply GC_seqK;intro K hK)
|(apply hK;clear hK K)
|(apply GC_region)
|(apply GL_nil)
|(apply thenG_normal)
|(apply thenG_ret)
|(apply GC_ret)
|(apply GC_skip)
|(apply GC_if_true;eq_refl)
|(apply GC_if_false;eq_refl)
|(apply retG2;eq_refl;eq_refl)
|(apply GL_on;eq_refl;eq_refl)
|(apply G_pv;eq_refl;first|exact trivial|omega)
|(apply G_ldW;eq_refl;(repeat first|exact In.here|apply In.there|apply In.skip);eq_refl)
|(apply G_cmpT;eq_refl;eq_refl;omega)
|(apply G_cmpF;eq_refl;eq_refl;omega)
|(apply G_alloc;eq_refl;intro _)
|(apply G_box;eq_refl;eq_refl;intro _)
|(apply G_stW;(first|exact wr_p|kernel_rfl);eq_refl;eq_refl;eq_refl;eq_refl;(repeat first|exact Upd.here|apply Upd.there|apply Upd.skip);eq_refl))
      exact ⟨[], (by repeat first | exact Wk.nil | exact Wk.refl | (apply Wk.cons; (focus ((repeat first | exact Rem.here | apply Rem.there | apply Rem.skip); done))) | apply Wk.nilv | apply Wk.last | apply Wk.drop), rfl, rfl⟩
theorem VarsR16_cv {w : World} {c : Circ} {h js : Hd} {n : Int} (H : CirIn w c h js) : CVN Tryz.prog 23 [.agg (ccells c h).toArray, nu n] w fun v N => N = [] ∧ v = .tuple #[nu (vrM c n), nu (vrE c n)] := by
  have hck : ∀ Γ, In Γ (.old w none_) → ∀ w', Mem w' Γ → CVN Tryz.prog 46 [.agg (ccells c h).toArray] w' fun v N => N = [] ∧ v = .tuple #[nu (lookM c).1, nu (lookM c).2] := fun Γ hi w' M => have H' := H.chg (hi.old M); CVN.of (checkRef_cv H'.at_ H'.sane H'.okay H'.fits) fun v w' h => ⟨h.2, h.1⟩
  refine CVN.enter 31 [4, 5] Tryz.func23 rfl rfl rfl (by decide) rfl ?_
  by_cases he : (lookM c).2 = 0
  · have R := right_of H.at_ H.sane he
    have m0 := R.m0
    have m1 := R.m1
    rw [he] at hck
    generalize (lookM c).1 = n0 at *
    by_cases hr : n < 1 ∨ 512 < n
    · have hz := vrE_rg he hr
      rw [vrM_no (by rw [hz]; decide), hz]
      by_cases h0 : n < 1
      · repeat' (first
|(apply G_call;eq_refl;eq_refl;(apply hck;(repeat first|exact In.here|apply In.there|apply In.skip));rintro _ _ ⟨rfl, rfl⟩)
|(apply GC_seqK;intro K hK)
|(apply hK;clear hK K)
|(apply GC_region)
|(apply GL_nil)
|(apply thenG_normal)
|(apply thenG_ret)
|(apply GC_ret)
|(apply GC_skip)
|(apply GC_if_true;eq_refl)
|(apply GC_if_false;eq_refl)
|(apply retG2;eq_refl;eq_refl)
|(apply GL_on;eq_refl;eq_refl)
|(apply GL_off;eq_refl;eq_refl)
|(apply G_pv;eq_refl;first|exact trivial|omega)
|(apply G_ldW;eq_refl;(repeat first|exact In.here|apply In.there|apply In.skip);eq_refl)
|(apply G_cmpT;eq_refl;eq_refl;omega)
|(apply G_cmpF;eq_refl;eq_refl;omega)
|(apply G_box;eq_refl;eq_refl;intro _))
        exact ⟨[], (by repeat first | exact Wk.nil | exact Wk.refl | (apply Wk.cons; (focus ((repeat first | exact Rem.here | apply Rem.there | apply Rem.skip); done))) | apply Wk.nilv | apply Wk.last | apply Wk.drop), rfl, rfl⟩
      · repeat' (first
|(apply G_call;eq_refl;eq_refl;(apply hck;(repeat first|exact In.here|apply In.there|apply In.skip));rintro _ _ ⟨rfl, rfl⟩)
|(apply GC_seqK;intro K hK)
|(apply hK;clear hK K)
|(apply GC_region)
|(apply GL_nil)
|(apply thenG_normal)
|(apply thenG_ret)
|(apply GC_ret)
|(apply GC_skip)
|(apply GC_if_true;eq_refl)
|(apply GC_if_false;eq_refl)
|(apply retG2;eq_refl;eq_refl)
|(apply GL_on;eq_refl;eq_refl)
|(apply G_pv;eq_refl;first|exact trivial|omega)
|(apply G_ldW;eq_refl;(repeat first|exact In.here|apply In.there|apply In.skip);eq_refl)
|(apply G_cmpT;eq_refl;eq_refl;omega)
|(apply G_cmpF;eq_refl;eq_refl;omega)
|(apply G_box;eq_refl;eq_refl;intro _))
        exact ⟨[], (by repeat first | exact Wk.nil | exact Wk.refl | (apply Wk.cons; (focus ((repeat first | exact Rem.here | apply Rem.there | apply Rem.skip); done))) | apply Wk.nilv | apply Wk.last | apply Wk.drop), rfl, rfl⟩
    · obtain ⟨z0, z1⟩ := mul_le (by omega : 0 ≤ n) (by omega : n ≤ 600) m0 m1
      by_cases hs : 262144 < 1 + n * c.max
      · have hf : ∀ Γ, ∀ w', Mem w' Γ → CVN Tryz.prog 47 [.agg (ccells c h).toArray, nu (n)] w' fun v N => N = [] ∧ v = .bool false := fun Γ w' M => by
              have := fits_cv (w := w') (h := h) z0 z1
              rw [decide_eq_false (by omega)] at this
              exact this
        have hz := vrE_sz he hr hs
        rw [vrM_no (by rw [hz]; decide), hz]
        repeat' (first
|(apply G_call;eq_refl;eq_refl;(apply hck;(repeat first|exact In.here|apply In.there|apply In.skip));rintro _ _ ⟨rfl, rfl⟩)
|(apply G_call;eq_refl;eq_refl;(apply hf);rintro _ _ ⟨rfl, rfl⟩)
|(apply GC_seqK;intro K hK)
|(apply hK;clear hK K)
|(apply GC_region)
|(apply GL_nil)
|(apply thenG_normal)
|(apply thenG_ret)
|(apply GC_ret)
|(apply GC_skip)
|(apply GC_if_true;eq_refl)
|(apply GC_if_false;eq_refl)
|(apply retG2;eq_refl;eq_refl)
|(apply GL_on;eq_refl;eq_refl)
|(apply G_pv;eq_refl;first|exact trivial|omega)
|(apply G_ldW;eq_refl;(repeat first|exact In.here|apply In.there|apply In.skip);eq_refl)
|(apply G_cmpF;eq_refl;eq_refl;omega)
|(apply G_box;eq_refl;eq_refl;intro _))
        exact ⟨[], (by repeat first | exact Wk.nil | exact Wk.refl | (apply Wk.cons; (focus ((repeat first | exact Rem.here | apply Rem.there | apply Rem.skip); done))) | apply Wk.nilv | apply Wk.last | apply Wk.drop), rfl, rfl⟩
      · have hf : ∀ Γ, ∀ w', Mem w' Γ → CVN Tryz.prog 47 [.agg (ccells c h).toArray, nu (n)] w' fun v N => N = [] ∧ v = .bool true := fun Γ w' M => by
              have := fits_cv (w := w') (h := h) z0 z1
              rw [decide_eq_true (by omega)] at this
              exact this
        have hz := vrE_ok he hr hs
        rw [vrM_ok hz, hz]
        repeat' (first
|(apply G_call;eq_refl;eq_refl;(apply hck;(repeat first|exact In.here|apply In.there|apply In.skip));rintro _ _ ⟨rfl, rfl⟩)
|(apply G_call;eq_refl;eq_refl;(apply hf);rintro _ _ ⟨rfl, rfl⟩)
|(apply GC_seqK;intro K hK)
|(apply hK;clear hK K)
|(apply GC_region)
|(apply GL_nil)
|(apply thenG_normal)
|(apply GC_ret)
|(apply GC_skip)
|(apply GC_if_false;eq_refl)
|(apply retG2;eq_refl;eq_refl)
|(apply GL_on;eq_refl;eq_refl)
|(apply G_pv;eq_refl;first|exact trivial|omega)
|(apply G_field;eq_refl)
|(apply G_ld;eq_refl;(repeat first|exact In.here|apply In.there|apply In.skip);eq_refl)
|(apply G_ldW;eq_refl;(repeat first|exact In.here|apply In.there|apply In.skip);eq_refl)
|(apply G_cmpF;eq_refl;eq_refl;omega)
|(apply G_box;eq_refl;eq_refl;intro _))
        exact ⟨[], (by repeat first | exact Wk.nil | exact Wk.refl | (apply Wk.cons; (focus ((repeat first | exact Rem.here | apply Rem.there | apply Rem.skip); done))) | apply Wk.nilv | apply Wk.last | apply Wk.drop), rfl, rfl⟩
  · have hz := vrE_look (n := n) he
    rw [vrM_no (by rw [hz]; exact he), hz]
    generalize (lookM c).1 = n0 at *
    generalize (lookM c).2 = ε at *
    repeat' (first
|(apply G_call;eq_refl;eq_refl;(apply hck;(repeat first|exact In.here|apply In.there|apply In.skip));rintro _ _ ⟨rfl, rfl⟩)
|(apply GC_seqK;intro K hK)
|(apply hK;clear hK K)
|(apply GC_region)
|(apply GL_nil)
|(apply thenG_normal)
|(apply thenG_ret)
|(apply GC_ret)
|(apply GC_if_true;eq_refl)
|(apply retG2;eq_refl;eq_refl)
|(apply GL_on;eq_refl;eq_refl)
|(apply G_pv;eq_refl;first|exact trivial|omega)
|(apply G_ldW;eq_refl;(repeat first|exact In.here|apply In.there|apply In.skip);eq_refl)
|(apply G_cmpT;eq_refl;eq_refl;omega)
|(apply G_box;eq_refl;eq_refl;intro _))
    exact ⟨[], (by repeat first | exact Wk.nil | exact Wk.refl | (apply Wk.cons; (focus ((repeat first | exact Rem.here | apply Rem.there | apply Rem.skip); done))) | apply Wk.nilv | apply Wk.last | apply Wk.drop), rfl, rfl⟩
end SC
end Go.Proofs.YtbmngkdnebklpaaGreat
end
section
/- slices.Grow (the kit's contract laid at this program) and slices.Concat at clauses. -/
set_option linter.unusedVariables false
set_option linter.unusedSimpArgs false
namespace Go.Proofs.YtbmngkdnebklpaaGreat
namespace SC
open Go.Proofs
open Go.Shelf
set_option maxRecDepth 100000
def groRen : Ren := ⟨fun | 4 => 64 | n => n, fun | 0 => 0 | 3 => 3 | 4 => 4 | 9 => 9 | 20 => 20 | 22 => 55 | 25 => 60 | n => n, fun n => n⟩
theorem groLay : Lays8.n4 Tryz.prog groRen := {
  mixed := by kernel_rfl
  f4 := ⟨Tryz.f64.name, by rfl, by kernel_rfl⟩
  t0 := by kernel_rfl
  a0 := fun w => by kernel_rfl
  z0 := fun w => by kernel_rfl
  v0 := fun w => by kernel_rfl
  t3 := by kernel_rfl
  a3 := fun w => by kernel_rfl
  z3 := fun w => by kernel_rfl
  v3 := fun w => by kernel_rfl
  t4 := by kernel_rfl
  a4 := fun w => by kernel_rfl
  z4 := fun w => by kernel_rfl
  v4 := fun w => by kernel_rfl
  t9 := by kernel_rfl
  a9 := fun w => by kernel_rfl
  z9 := fun w => by kernel_rfl
  v9 := fun w => by kernel_rfl
  t20 := by kernel_rfl
  a20 := fun w => by kernel_rfl
  z20 := fun w => by kernel_rfl
  v20 := fun w => by kernel_rfl
  t22 := by kernel_rfl
  a22 := fun w => by kernel_rfl
  z22 := fun w => by kernel_rfl
  v22 := fun w => by kernel_rfl }
theorem grow_cv {w : World} {n : Nat} (h0 : 0 < n) (h1 : n ≤ 1000000) : CVN Tryz.prog 64 [.slice none 0 0, nu (n : Int)] w fun v N => ∃ b k, v = .slice (some ⟨b, 0, none⟩) 0 k ∧ N = [.vec (encS (β := Int)) 1 60 (some ⟨b, 0, none⟩) k []] := by
  have T : Ty Tryz.prog 60 _ 1 _ 24 false := inferInstance
  have hi := T.info
  cases hi0 : Tryz.prog.info? 60 with
  | none => rw [hi0] at hi; cases hi
  | some i0 =>
    rw [hi0] at hi
    simp only [Option.map_some, Option.some.injEq, Prod.mk.injEq] at hi
    obtain ⟨e1, e2, e3⟩ := hi
    have hc := Any8.slices_Grow_grow groLay i0 _ hi0 e1 (by omega) none 0 0 n [] w (Nat.le_refl _) (by omega) (by rw [e3]; omega) (by omega) (by simp) (fun _ => rfl) (fun a ha => by cases ha)
    refine cv_of hc ?_
    rw [show groRen.t 25 = 60 from rfl, show (0 + n : Nat) = n by omega]
    have hle := grownCap_ge w n 0 60
    have hml := grownCap_le_maxLen w n 0 60 (by unfold maxLen; omega)
    generalize grownCap w n 0 60 = G at *
    refine ⟨_, ?_, w.heap.size, G, rfl, rfl⟩
    generalize hcs : ((([] : List Value).toArray ++ Builtin.zeroCells (Value.slice none 0 0).cells (n - 0) ++ Builtin.zeroCells (Value.slice none 0 0).cells (G - n)) : Array Value) = cs
    have hz : cs.size = G := by rw [← hcs]; simp [Builtin.zeroCells, Value.cells]; omega
    have M1 := (Mem.start w).drew.new cs 60
    have hb : (Ent.vec (encS (β := Int)) 1 60 (some ⟨w.heap.size, 0, none⟩) G []).ok (w.drew.alloc (.cells cs 60)) :=
      ⟨by simp, .inr ⟨w.heap.size, G, cs, rfl, Nat.zero_le _, heap_alloc_new w.drew _, Nat.zero_le _, hml, by rw [hz, Nat.mul_one], by simp⟩⟩
    refine M1.tail.cons hb fun k hk ho => ?_
    obtain ⟨E, hE, h2⟩ := ho
    simp only [Ent.own, Value.ownBlock, Option.some.injEq] at hk
    exact (List.pairwise_cons.1 M1.ap).1 E hE k hk.symm h2
/-- How long all together. -/
abbrev CatL := List (Hdl × List (Hdl × List Int))
def catN (Q : CatL) : Nat := (Q.flatMap (·.2)).length
theorem catN_take (Q : CatL) (i : Nat) : catN (Q.take i) ≤ catN Q := by
  unfold catN
  conv => rhs; rw [← List.take_append_drop i Q, List.flatMap_append, List.length_append]
  omega
attribute [local irreducible] WC WL WX WS WO OX Does DoesU Enters CV Pure thenQ blockQ retQ Wants retQC GC GL GS GX RdB thenG blockG retG Rd At gt CVN CVM
theorem concat_cv {w : World} {A : Option Addr} {k : Nat} {Q : CatL} (H : RowA w encS 1 A Q) (H2 : ∀ q ∈ Q, RowA w encS 1 q.1.1 q.2 ∧ (q.1.1 = none → q.1.2 = 0)) (hq : Q.length ≤ 1000) (h0 : 0 < catN Q) (h1 : catN Q ≤ 1000000) :
    CVN Tryz.prog 38 [.slice A Q.length k] w fun v N => ∃ B c, v = .slice B (Q.flatMap (·.2)).length c ∧ N = [.vec encS 1 60 B c (Q.flatMap (·.2))] := by
  have hgr : ∀ Γ, ∀ w', Mem w' Γ → CVN Tryz.prog 64 [.slice none 0 0, nu (catN Q : Int)] w' _ := fun Γ w' M => grow_cv h0 h1
  refine CVN.enter 36 [2] Tryz.func38 rfl rfl rfl (by decide) rfl ?_
  repeat' (first
|(apply GC_seqK;intro K hK)
|(apply hK;clear hK K)
|(apply GC_block)
|(apply GC_region)
|(apply GL_nil)
|(apply thenG_normal)
|(apply GL_on;eq_refl;eq_refl)
|(apply G_pv;eq_refl;first|exact trivial|omega)
|(apply G_len;eq_refl))
  refine GC_loopK [0, 9, 10] (fun i : Nat => [(11, nu i), (3, nu (catN (Q.take i) : Nat))]) (fun _ => [.old w none_]) (fun i => i ≤ Q.length) (fun i => Q.length - i) 0 (by repeat first | exact Pick.nil | (apply Pick.cons; eq_refl)) (by repeat first | exact trivial | refine ⟨rfl, ?_⟩) (by repeat first | exact Wk.nil | exact Wk.refl | (apply Wk.cons; (focus ((repeat first | exact Rem.here | apply Rem.there | apply Rem.skip); done))) | apply Wk.nilv | apply Wk.last | apply Wk.drop) (Nat.zero_le _) ?_
  intro i hi
  have cn := catN_take Q i
  rcases Nat.lt_or_ge i Q.length with hlt | hge
  · have g1 := gt_nat hlt
    have e1 : catN (Q.take (i + 1)) = catN (Q.take i) + (gt Q (i : Int)).2.length := by unfold catN; rw [flat_snoc hlt, List.length_append]
    have cn1 := catN_take Q (i + 1)
    generalize hx : gt Q (i : Int) = x at *
    obtain ⟨x1, l1⟩ := x
    dsimp only at e1
    repeat' (first
|(apply G_rd;eq_refl;(first|(apply Rd.own;(repeat first|exact In.here|apply In.there|apply In.skip);infer_instance)|(apply Rd.old;(repeat first|exact In.here|apply In.there|apply In.skip);assumption)|(apply Rd.oldR;(repeat first|exact In.here|apply In.there|apply In.skip);assumption)|exact Rd.nil|assumption);(case ih => infer_instance);omega;omega;(rw [hx];dsimp only [encS];eq_refl))
|(apply GC_seqK;intro K hK)
|(apply hK;clear hK K)
|(apply GC_block)
|(apply GC_region)
|(apply GL_nil)
|(apply thenG_normal)
|(apply blockG_normal)
|(apply GC_skip)
|(apply GC_if_true;eq_refl)
|(apply GC_if_false;eq_refl)
|(apply GL_on;eq_refl;eq_refl)
|(apply G_pv;eq_refl;first|exact trivial|omega)
|(apply G_cmpT;eq_refl;eq_refl;omega)
|(apply G_cmpF;eq_refl;eq_refl;omega)
|(apply G_len;eq_refl)
|(apply G_ix;eq_refl;eq_refl;(first|(apply Rd.own;(repeat first|exact In.here|apply In.there|apply In.skip);infer_instance)|(apply Rd.old;(repeat first|exact In.here|apply In.there|apply In.skip);assumption)|(apply Rd.oldR;(repeat first|exact In.here|apply In.there|apply In.skip);assumption)|exact Rd.nil|assumption);(first|eq_refl|omega);omega;omega))
    have e2 : ((catN (Q.take (i + 1)) : Nat) : Int) = (catN (Q.take i) : Nat) + (l1.length : Int) := by omega
    refine ⟨i + 1, ?_, (by repeat first | exact Wk.nil | exact Wk.refl | (apply Wk.cons; (focus ((repeat first | exact Rem.here | apply Rem.there | apply Rem.skip); done))) | apply Wk.nilv | apply Wk.last | apply Wk.drop), hlt, by omega⟩
    rw [e2]
    exact (by repeat first | exact trivial | refine ⟨rfl, ?_⟩)
  · obtain rfl : i = Q.length := by omega
    rw [List.take_length] at cn ⊢
    repeat' (first
|(apply G_call;eq_refl;eq_refl;(apply hgr);rintro _ _ ⟨b, G, rfl, rfl⟩)
|(apply GC_seqK;intro K hK)
|(apply hK;clear hK K)
|(clear hK K;apply hK;clear hK K)
|(apply GC_block)
|(apply GC_region)
|(apply GL_nil)
|(apply thenG_normal)
|(apply thenG_exit)
|(apply blockG_hit)
|(apply GC_exit)
|(apply GC_if_false;eq_refl)
|(apply GL_on;eq_refl;eq_refl)
|(apply G_pv;eq_refl;first|exact trivial|omega)
|(apply G_cmpF;eq_refl;eq_refl;omega)
|(apply G_len;eq_refl))
    refine GC_loopK [25, 26] (fun s : Nat × Option Addr × Nat => [(27, nu s.1), (6, .slice s.2.1 ((Q.take s.1).flatMap (·.2)).length s.2.2)]) (fun s => [.vec encS 1 60 s.2.1 s.2.2 ((Q.take s.1).flatMap (·.2)), .old w none_]) (fun s => s.1 ≤ Q.length) (fun s => Q.length - s.1) (0, some ⟨b, 0, none⟩, G) (by repeat first | exact Pick.nil | (apply Pick.cons; eq_refl)) (by repeat first | exact trivial | refine ⟨rfl, ?_⟩) (by repeat first | exact Wk.nil | exact Wk.refl | (apply Wk.cons; (focus ((repeat first | exact Rem.here | apply Rem.there | apply Rem.skip); done))) | apply Wk.nilv | apply Wk.last | apply Wk.drop) (Nat.zero_le _) ?_
    rintro ⟨i, B, kB⟩ hi
    dsimp only at hi ⊢
    have cn := catN_take Q i
    rcases Nat.lt_or_ge i Q.length with hlt | hge
    · have e1 := flat_snoc (f := (·.2)) hlt
      have cn1 := catN_take Q (i + 1)
      obtain ⟨hx1, hx2⟩ := H2 _ (gt_mem (l := Q) (i := (i : Int)) (by omega) (by omega))
      rw [show catN (Q.take (i + 1)) = _ from congrArg List.length e1, List.length_append] at cn1
      change ((Q.take i).flatMap (·.2)).length ≤ _ at cn
      generalize hx : gt Q (i : Int) = x at *
      obtain ⟨x1, l1⟩ := x
      dsimp only at e1 cn1 hx1 hx2
      generalize (Q.take i).flatMap (·.2) = l at *
      repeat' (first
|(apply G_rd;eq_refl;(first|(apply Rd.own;(repeat first|exact In.here|apply In.there|apply In.skip);infer_instance)|(apply Rd.old;(repeat first|exact In.here|apply In.there|apply In.skip);assumption)|(apply Rd.oldR;(repeat first|exact In.here|apply In.there|apply In.skip);assumption)|exact Rd.nil|assumption);(case ih => infer_instance);omega;omega;(rw [hx];dsimp only [encS];eq_refl))
|(apply G_appR;(first|exact wr_p|kernel_rfl);eq_refl;eq_refl;(intro A c;(repeat first|exact Upd.here|apply Upd.there|apply Upd.skip));infer_instance;(first|(apply Rd.own;(repeat first|exact In.here|apply In.there|apply In.skip);infer_instance)|(apply Rd.old;(repeat first|exact In.here|apply In.there|apply In.skip);assumption)|(apply Rd.oldR;(repeat first|exact In.here|apply In.there|apply In.skip);assumption)|exact Rd.nil|assumption);exact hx2;eq_refl;eq_refl;eq_refl;omega;decide;intro A9 k9)
|(apply GC_seqK;intro K hK)
|(apply hK;clear hK K)
|(apply GC_block)
|(apply GC_region)
|(apply GL_nil)
|(apply thenG_normal)
|(apply blockG_normal)
|(apply GC_skip)
|(apply GC_if_true;eq_refl)
|(apply GL_on;eq_refl;eq_refl)
|(apply G_pv;eq_refl;first|exact trivial|omega)
|(apply G_cmpT;eq_refl;eq_refl;omega)
|(apply G_ix;eq_refl;eq_refl;(first|(apply Rd.own;(repeat first|exact In.here|apply In.there|apply In.skip);infer_instance)|(apply Rd.old;(repeat first|exact In.here|apply In.there|apply In.skip);assumption)|(apply Rd.oldR;(repeat first|exact In.here|apply In.there|apply In.skip);assumption)|exact Rd.nil|assumption);(first|eq_refl|omega);omega;omega))
      refine ⟨(i + 1, A9, k9), ?_, ?_, hlt, by dsimp only; omega⟩
      · dsimp only
        rw [e1]
        exact (by repeat first | exact trivial | refine ⟨rfl, ?_⟩)
      · dsimp only
        rw [e1]
        exact (by repeat first | exact Wk.nil | exact Wk.refl | (apply Wk.cons; (focus ((repeat first | exact Rem.here | apply Rem.there | apply Rem.skip); done))) | apply Wk.nilv | apply Wk.last | apply Wk.drop)
    · obtain rfl : i = Q.length := by omega
      rw [List.take_length]
      repeat' (first
|(apply GC_seqK;intro K hK)
|(apply hK;clear hK K)
|(clear hK K;apply hK;clear hK K)
|(apply GC_region)
|(apply GL_nil)
|(apply thenG_normal)
|(apply thenG_exit)
|(apply blockG_hit)
|(apply GC_ret)
|(apply GC_exit)
|(apply GC_if_false;eq_refl)
|(apply retG1;eq_refl)
|(apply GL_on;eq_refl;eq_refl)
|(apply G_pv;eq_refl;first|exact trivial|omega)
|(apply G_cmpF;eq_refl;eq_refl;omega))
      exact ⟨[.vec encS 1 60 B kB (Q.flatMap (·.2))], (by repeat first | exact Wk.nil | exact Wk.refl | (apply Wk.cons; (focus ((repeat first | exact Rem.here | apply Rem.there | apply Rem.skip); done))) | apply Wk.nilv | apply Wk.last | apply Wk.drop), B, kB, rfl, rfl⟩
end SC
end Go.Proofs.YtbmngkdnebklpaaGreat
end
section
/- frames: Run. -/
set_option linter.unusedVariables false
set_option linter.unusedSimpArgs false
namespace Go.Proofs.YtbmngkdnebklpaaGreat
namespace SC
open Go.Proofs
/-- How many clauses so many steps have. -/
noncomputable def rnN (c : Circ) (n : Int) : Int := 1 + ((firstS c).length : Int) + n * (3 * (c.ands.length : Int) + (c.constraints.length : Int)) + 2 * (n - 1) * (c.latches.length : Int)
/-- What is wrong with so many steps' formula. -/
noncomputable def rnE (c : Circ) (n : Int) : Int := if vrE c n ≠ 0 then vrE c n else if 524288 < rnN c n then 6 else 0
noncomputable def rnL (c : Circ) (n : Int) : List (List Int) := if rnE c n = 0 then runS c (n - 1).toNat else []
noncomputable def rnV (c : Circ) (n : Int) : Int := if rnE c n = 0 then 1 + n * c.max else 0
theorem rnE_vr {c : Circ} {n : Int} (h : vrE c n ≠ 0) : rnE c n = vrE c n := if_pos h
theorem rnE_sz {c : Circ} {n : Int} (h : vrE c n = 0) (h2 : 524288 < rnN c n) : rnE c n = 6 := by unfold rnE; rw [if_neg (by omega), if_pos h2]
theorem rnE_ok {c : Circ} {n : Int} (h : vrE c n = 0) (h2 : ¬ 524288 < rnN c n) : rnE c n = 0 := by unfold rnE; rw [if_neg (by omega), if_neg h2]
theorem rnL_no {c : Circ} {n : Int} (h : rnE c n ≠ 0) : rnL c n = [] := if_neg h
theorem rnL_ok {c : Circ} {n : Int} (h : rnE c n = 0) : rnL c n = runS c (n - 1).toNat := if_pos h
theorem rnV_no {c : Circ} {n : Int} (h : rnE c n ≠ 0) : rnV c n = 0 := if_neg h
theorem rnV_ok {c : Circ} {n : Int} (h : rnE c n = 0) : rnV c n = 1 + n * c.max := if_pos h
theorem run_num {n a b l : Int} (h1 : 1 ≤ n) (h2 : n ≤ 512) (a0 : 0 ≤ a) (a1 : a ≤ 16384) (b0 : 0 ≤ b) (b1 : b ≤ 16384) (l0 : 0 ≤ l) (l1 : l ≤ 16384) :
    (0 ≤ n * (3 * a + b) ∧ n * (3 * a + b) ≤ 100000000) ∧ (0 ≤ 2 * (n - 1) * l ∧ 2 * (n - 1) * l ≤ 100000000) ∧ (n - 1) * 2 * l = 2 * (n - 1) * l := by
  have h3 := Int.mul_le_mul h2 (by omega : 3 * a + b ≤ 65536) (by omega) (by decide : (0 : Int) ≤ 512)
  have h4 := Int.mul_le_mul (by omega : 2 * (n - 1) ≤ 1022) l1 l0 (by decide : (0 : Int) ≤ 1022)
  refine ⟨⟨Int.mul_nonneg (by omega) (by omega), by omega⟩, ⟨Int.mul_nonneg (by omega) l0, by omega⟩, ?_⟩
  rw [Int.mul_comm (n - 1) 2]
theorem runS_le {c : Circ} (R : Right c) {j : Nat} (hj : j ≤ 512) : (runS c j).length ≤ 60000000 := by
  have n2 := R.nLat
  have n3 := R.nAnd
  have n4 := R.nCon
  have h1 := firstS_len c
  rw [runS_len]
  have h3 := Nat.mul_le_mul (by omega : j + 1 ≤ 513) (by omega : 3 * c.ands.length + c.constraints.length ≤ 65536)
  have h4 := Nat.mul_le_mul hj (by omega : 2 * c.latches.length ≤ 32768)
  omega
theorem map_len {α β : Type} {f : α → β} {l : List α} {m : List β} (h : l.map f = m) : l.length = m.length := by rw [← h, List.length_map]
/-- A formula and an error as an answer. -/
def CnfT (V : Int) (m : List (List Int)) (ε : Int) (v : Value) (N : Mm) : Prop := ∃ ps A k, v = .tuple #[.agg #[nu V, .slice A ps.length k], nu ε] ∧ ps.map (·.2) = m ∧ N = [.vec encS 1 60 A k ps, .any (bun (fam rowJ ps))]
theorem cat2_cv {Γ : Mm} {b b2 b3 kB : Nat} {B : Option Addr} {qs : List (Hdl × List Int)} (h1 : In Γ (.box b 55 [.slice (some ⟨b2, 0, none⟩) 1 1, .slice B qs.length kB])) (h2 : In Γ (.box b2 60 [.slice (some ⟨b3, 0, none⟩) 1 1])) (h3 : In Γ (.vec encS 1 60 B kB qs)) (hl : qs.length ≤ 900000) (w : World) (M : Mem w Γ) :
    CVN Tryz.prog 38 [.slice (some ⟨b, 0, none⟩) 2 2] w fun v N => ∃ C c, v = .slice C (qs.length + 1) c ∧ N = [.vec encS 1 60 C c (((some ⟨b3, 0, none⟩, 1), [-1]) :: qs)] := by
  have H : RowA w encS 1 (some ⟨b, 0, none⟩) ([((some ⟨b2, 0, none⟩, 1), [((some ⟨b3, 0, none⟩, 1), [-1])]), ((B, kB), qs)] : CatL) := RowA.blk (fun _ => rfl) (h1.box M)
  have hn : B = none → kB = 0 := fun hA => by
    rcases (h3.ok M).2 with ⟨h1, _⟩ | ⟨g, cap, cur, h1, _⟩
    · simp only [Value.slice.injEq] at h1; exact h1.2.2
    · simp only [Value.slice.injEq] at h1; rw [h1.1] at hA; cases hA
  have hc : catN ([((some ⟨b2, 0, none⟩, 1), [((some ⟨b3, 0, none⟩, 1), [-1])]), ((B, kB), qs)] : CatL) = qs.length + 1 := by simp [catN]
  have := concat_cv (k := 2) H (fun q hq => by
    rcases List.mem_cons.1 hq with rfl | hq
    · exact ⟨RowA.blk (enc := encS) (l := ([((some ⟨b3, 0, none⟩, 1), [-1])] : List (Hdl × List Int))) (fun _ => rfl) (h2.box M), fun h => by cases h⟩
    · rcases List.mem_singleton.1 hq with rfl
      exact ⟨RowA.own (enc := encS) (fun _ => rfl) (h3.ok M), hn⟩) (by simp) (by omega) (by omega)
  simpa using this
section
variable {P : Program} {n : Nat} {all : List Oper} {K : Env → Mm → Prop} {e : Env} {Γ : Mm} {d : Option Tmp} {ty t t0 : TypeId} {x y : Operand} {td : TypeDesc} {sz by_ : Nat} {zv : Value} {ag : Bool}
/-- append to a vector that was kept apart. -/
theorem G_appVP {α : Type} {enc : α → List Value} {j : Nat} {A : List Fl} {Θ : Mm} {r : List PStep} [U : Ty P t (.slice t0) 1 (.slice none 0 0) 24 false] [T : Ty P t0 td sz zv by_ ag] {A1 A2 : Option Addr} {c k1 k2 c2 : Nat} {l l2 : List α} {t2 : TypeId} {Θ2 : Option Addr → Nat → Mm} (h : ev e x = some (.slice A1 k1 c)) (h1 : ev e y = some (.slice A2 k2 c2))
    (hU : ∀ A' c', Upd Θ (.vec enc sz t0 A1 c l) (.vec enc sz t0 A' c' (l ++ l2)) (Θ2 A' c')) (N : Enc enc sz) (hi : In Γ (.vec enc sz t2 A2 c2 l2)) (hk1 : k1 = l.length) (hk : k2 = l2.length) (hzs : zv.cells.size = sz) (hby : (l.length + l2.length) * by_ ≤ 140737488355328) (hby1 : 1 ≤ by_)
    (hr : ∀ A' c', GS P n all K A (Θ2 A' c') r (push d (.slice A' (l ++ l2).length c') e) Γ) : GX P n all K (.c j A Θ r) d (.call { callee := .builtin .append, args := #[x, y], argTypes := #[t, t] }) ty e Γ := fun pos af g ho hg hd hA =>
  GS_priv (R := fun v Θ1 N => ∃ A' c', v = .slice A' (l ++ l2).length c' ∧ Θ1 = Θ2 A' c' ∧ N = []) ho hg hd hA (fun Δ w M =>
    (acts_appendR (P := P) (ty := ty) (t := t) (t0 := t0) (enc := enc) (Γ2 := fun A' c' => Θ2 A' c' ++ Γ) h hk1 h1 hk (fun A' c' => (hU A' c').left) (fun w M => Rd.own hi N w M.right) (fun w M hA => by
      have := hi.ok M.right
      rcases this.2 with ⟨h1, _⟩ | ⟨g, cap, cur, h1, _⟩
      · simp only [Value.slice.injEq] at h1; exact h1.2.2
      · simp only [Value.slice.injEq] at h1; rw [h1.1] at hA; cases hA) hzs hby hby1 Δ w M).mono fun v w' ⟨Γ', M', A', c', e1, e2⟩ => by
        subst e2
        exact ⟨Θ2 A' c', [], M', A', c', e1, rfl, rfl⟩) fun v Θ1 N ⟨A', c', e1, e2, e3⟩ => by rw [e1, e2, e3]; exact hr A' c'
theorem Wk.rows2 {Γ Γ1 Γ2 Γ3 Γ' : Mm} {ps qs rs : List (Hdl × List Int)} (h1 : Rem Γ (.any (bun (fam rowJ ps))) Γ1) (h2 : Rem Γ1 (.any (bun (fam rowJ qs))) Γ2) (h3 : Rem Γ2 (.any (bun (fam rowJ rs))) Γ3) (h : Wk Γ3 Γ') : Wk Γ (.any (bun (fam rowJ (ps ++ qs ++ rs))) :: Γ') :=
  (Wk.rows h1 h2 .refl).trans (Wk.rows .here h3 h)
end
attribute [local irreducible] WC WL WX WS WO OX Does DoesU Enters CV Pure thenQ blockQ retQ Wants retQC GC GL GS GX RdB thenG blockG retG Rd At gt CVN CVM
set_option maxRecDepth 100000
theorem RunP16_cv {w : World} {c : Circ} {h js : Hd} {n : Int} (H : CirIn w c h js) : CVN Tryz.prog 18 [.agg (ccells c h).toArray, nu n] w (CnfT (rnV c n) (rnL c n) (rnE c n)) := by
  have hvr : ∀ Γ, In Γ (.old w none_) → ∀ w', Mem w' Γ → CVN Tryz.prog 21 [.agg (ccells c h).toArray, nu n] w' _ := fun Γ hi w' M => VarsP16_cv (H.chg (hi.old M))
  refine CVN.enterC1 (t := 57) 79 4 5 Tryz.func18 rfl rfl rfl rfl ?_
  by_cases hz : vrE c n = 0
  · obtain ⟨he, n1, n2, n3⟩ := vrE_zero hz
    have R := right_of H.at_ H.sane he
    have m0 := R.m0
    have m1 := R.m1
    have l2 := R.nLat
    have l3 := R.nAnd
    have l4 := R.nCon
    have lf := firstS_len c
    obtain ⟨⟨z0, z1⟩, ⟨z2, z3⟩, _⟩ := run_num (a := (c.ands.length : Int)) (b := (c.constraints.length : Int)) (l := (c.latches.length : Int)) n1 n2 (by omega) (by omega) (by omega) (by omega) (by omega) (by omega)
    have hfs : ∀ Γ, In Γ (.old w none_) → ∀ w', Mem w' Γ → CVN Tryz.prog 39 [.agg (ccells c h).toArray] w' (CliR (firstS c)) := fun Γ hi w' M => firstS_cv R (H.at_.chg (hi.old M))
    have hst : ∀ t : Int, 0 ≤ t → t ≤ 512 → ∀ Γ, In Γ (.old w none_) → ∀ w', Mem w' Γ → CVN Tryz.prog 40 [.agg (ccells c h).toArray, nu t] w' (CliR (stepS c t)) := fun t t0 t1 Γ hi w' M => stepF_cv R (H.at_.chg (hi.old M)) t0 (by omega)
    have hnx : ∀ t : Int, 0 ≤ t → t ≤ 512 → ∀ Γ, In Γ (.old w none_) → ∀ w', Mem w' Γ → CVN Tryz.prog 41 [.agg (ccells c h).toArray, nu t] w' (CliR (nextS c t)) := fun t t0 t1 Γ hi w' M => nextS_cv R (H.at_.chg (hi.old M)) t0 (by omega)
    rw [hz, vrM_ok hz] at hvr
    by_cases hs : 524288 < rnN c n
    · rw [rnV_no (by rw [rnE_sz hz hs]; decide), rnL_no (by rw [rnE_sz hz hs]; decide), rnE_sz hz hs]
      unfold rnN at hs
      repeat' (first
|(apply G_call;eq_refl;eq_refl;(apply hvr;(repeat first|exact In.here|apply In.there|apply In.skip));rintro _ _ ⟨rfl, rfl⟩)
|(apply G_call;eq_refl;eq_refl;(apply hfs;(repeat first|exact In.here|apply In.there|apply In.skip));rintro _ _ ⟨qs, B, kB, rfl, hqs, rfl⟩;have lq := map_len hqs)
|(apply G_call;eq_refl;eq_refl;(apply cat2_cv;(repeat first|exact In.here|apply In.there|apply In.skip);(repeat first|exact In.here|apply In.there|apply In.skip);(repeat first|exact In.here|apply In.there|apply In.skip);omega);rintro _ _ ⟨C, kC, rfl, rfl⟩)
|(apply GC_seqK;intro K hK)
|(apply hK;clear hK K)
|(apply GC_region)
|(apply GL_nil)
|(apply thenG_normal)
|(apply thenG_ret)
|(apply GC_ret)
|(apply GC_skip)
|(apply GC_if_true;eq_refl)
|(apply GC_if_false;eq_refl)
|(apply retGC1r;eq_refl;(repeat first|exact In.here|apply In.there|apply In.skip);eq_refl;eq_refl)
|(apply GL_on;eq_refl;eq_refl)
|(apply G_pv;eq_refl;first|exact trivial|omega)
|(apply G_field;eq_refl)
|(apply G_ld;eq_refl;(repeat first|exact In.here|apply In.there|apply In.skip);eq_refl)
|(apply G_ldW;eq_refl;(repeat first|exact In.here|apply In.there|apply In.skip);eq_refl)
|(apply G_cmpT;eq_refl;eq_refl;omega)
|(apply G_cmpF;eq_refl;eq_refl;omega)
|(apply G_len;eq_refl)
|(apply G_alloc;eq_refl;intro _)
|(apply G_box;eq_refl;eq_refl;intro _)
|(apply G_stW;(first|exact wr_p|kernel_rfl);eq_refl;eq_refl;eq_refl;eq_refl;(repeat first|exact Upd.here|apply Upd.there|apply Upd.skip);eq_refl)
|(apply GX_pure;apply build57_)
|(apply GX_pure;apply build66_0 <;> eq_refl)
|(apply GX_pure;apply build57_0_1 <;> eq_refl)
|(apply G_new (fun b => .slice (some ⟨b, 0, none⟩) 1 1);eq_refl;(intro _;apply buildS60_1 <;> eq_refl);intro _)
|(apply G_new (fun b => .slice (some ⟨b, 0, none⟩) 1 1);eq_refl;(intro _;apply buildS55_1 <;> eq_refl);intro _)
|(apply G_new (fun b => .slice (some ⟨b, 0, none⟩) 2 2);eq_refl;(intro _;apply buildS116_2 <;> eq_refl);intro _))
      exact ⟨[.vec encS 1 60 none 0 [], .any (bun (fam rowJ []))], Wk.nilv (rows_nil (by repeat first | exact Wk.nil | exact Wk.refl | (apply Wk.cons; (focus ((repeat first | exact Rem.here | apply Rem.there | apply Rem.skip); done))) | apply Wk.nilv | apply Wk.last | apply Wk.drop)), [], none, 0, rfl, rfl, rfl⟩
    · rw [rnV_ok (rnE_ok hz hs), rnL_ok (rnE_ok hz hs), rnE_ok hz hs]
      unfold rnN at hs
      have ls0 := stepS_len c 0
      repeat' (first
|(apply G_call;eq_refl;eq_refl;(apply hvr;(repeat first|exact In.here|apply In.there|apply In.skip));rintro _ _ ⟨rfl, rfl⟩)
|(apply G_call;eq_refl;eq_refl;(apply hfs;(repeat first|exact In.here|apply In.there|apply In.skip));rintro _ _ ⟨qs, B, kB, rfl, hqs, rfl⟩;have lq := map_len hqs)
|(apply G_call;eq_refl;eq_refl;(apply cat2_cv;(repeat first|exact In.here|apply In.there|apply In.skip);(repeat first|exact In.here|apply In.there|apply In.skip);(repeat first|exact In.here|apply In.there|apply In.skip);omega);rintro _ _ ⟨C, kC, rfl, rfl⟩)
|(apply G_call;eq_refl;eq_refl;(apply (hst 0 (by omega) (by omega));(repeat first|exact In.here|apply In.there|apply In.skip));rintro _ _ ⟨rs, D, kD, rfl, hrs, rfl⟩;have lr := map_len hrs)
|(apply GC_seqK;intro K hK)
|(apply hK;clear hK K)
|(apply GC_block)
|(apply GC_region)
|(apply GL_nil)
|(apply thenG_normal)
|(apply GC_skip)
|(apply GC_if_false;eq_refl)
|(apply GL_on;eq_refl;eq_refl)
|(refine GC_draws (id := 8) [.q 0, .q 1, .q 2, .c 3, .c 4, .q 5, .c 6] mixed (by kernel_rfl) (by kernel_rfl) ?_)
|(apply GS_nil)
|(apply GS_qon;eq_refl;eq_refl;eq_refl;eq_refl)
|(apply GS_con;eq_refl;eq_refl;eq_refl;eq_refl)
|(apply G_pv;eq_refl;first|exact trivial|omega)
|(apply G_field;eq_refl)
|(apply G_ld;eq_refl;(repeat first|exact In.here|apply In.there|apply In.skip);eq_refl)
|(apply G_ldW;eq_refl;(repeat first|exact In.here|apply In.there|apply In.skip);eq_refl)
|(apply G_cmpF;eq_refl;eq_refl;omega)
|(apply G_len;eq_refl)
|(apply G_alloc;eq_refl;intro _)
|(apply G_box;eq_refl;eq_refl;intro _)
|(apply G_st;(first|exact wr_p|kernel_rfl);eq_refl;eq_refl;eq_refl;eq_refl;(repeat first|exact Upd.here|apply Upd.there|apply Upd.skip);(first|decide|exact Nat.le_of_ble_eq_true rfl))
|(apply G_stW;(first|exact wr_p|kernel_rfl);eq_refl;eq_refl;eq_refl;eq_refl;(repeat first|exact Upd.here|apply Upd.there|apply Upd.skip);eq_refl)
|(apply G_appV;(first|exact wr_p|kernel_rfl);eq_refl;eq_refl;(intro A c;(repeat first|exact Upd.here|apply Upd.there|apply Upd.skip));infer_instance;(repeat first|exact In.here|apply In.there|apply In.skip);eq_refl;eq_refl;eq_refl;((try simp only [List.length_append, List.length_cons, List.length_nil]);omega);decide;intro _ _)
|(apply GX_pure;apply build66_0 <;> eq_refl)
|(apply GX_pure;apply build57_0_1 <;> eq_refl)
|(apply G_new (fun b => .slice (some ⟨b, 0, none⟩) 1 1);eq_refl;(intro _;apply buildS60_1 <;> eq_refl);intro _)
|(apply G_new (fun b => .slice (some ⟨b, 0, none⟩) 1 1);eq_refl;(intro _;apply buildS55_1 <;> eq_refl);intro _)
|(apply G_new (fun b => .slice (some ⟨b, 0, none⟩) 2 2);eq_refl;(intro _;apply buildS116_2 <;> eq_refl);intro _))
      rename_i b2 b4 b8 b24 b25 b28 b9 A1 k1
      refine GC_loopK [1, 2, 4, 8, 9] (fun s : Nat × List (Hdl × List Int) × Option Addr × Nat => [(10, nu ((s.1 + 1 : Nat) : Int))]) (fun s => [.any (bun (fam rowJ s.2.1)), .vec encS 1 60 s.2.2.1 s.2.2.2 s.2.1, .box b9 57 [nu (1 + n * c.max), .slice s.2.2.1 s.2.1.length s.2.2.2], .box b8 66 (ccells c h), .box b4 57 [nu 0, .slice none 0 0], .box b2 29 (ccells c h), .old w none_])
        (fun s => (s.1 : Int) + 1 ≤ n ∧ s.2.1.map (·.2) = runS c s.1) (fun s => n.toNat - s.1) (0, ((some ⟨b24, 0, none⟩, 1), [-1]) :: qs ++ rs, A1, k1) (by repeat first | exact Pick.nil | (apply Pick.cons; eq_refl)) (by repeat first | exact trivial | refine ⟨rfl, ?_⟩) ?_ ⟨by dsimp only; omega, ?_⟩ ?_
      · refine Wk.trans (rows_nil .refl) ?_
        refine Wk.trans (Wk.add1 (l := [-1]) (b := b24) .here (by repeat first | exact Rem.here | apply Rem.there | apply Rem.skip) rfl (Nat.le_of_ble_eq_true rfl) .refl) ?_
        refine Wk.trans (Wk.rows (qs := qs) .here (by repeat first | exact Rem.here | apply Rem.there | apply Rem.skip) .refl) ?_
        exact Wk.rows .here (by repeat first | exact Rem.here | apply Rem.there | apply Rem.skip) (by repeat first | exact Wk.nil | exact Wk.refl | (apply Wk.cons; (focus ((repeat first | exact Rem.here | apply Rem.there | apply Rem.skip); done))) | apply Wk.nilv | apply Wk.last | apply Wk.drop)
      · dsimp only
        rw [List.cons_append, List.map_cons, List.map_append, hqs, hrs]
        rfl
      rintro ⟨j, ps, A, kA⟩ ⟨hj, hps⟩
      dsimp only at hj hps ⊢
      have lp := map_len hps
      have le := runS_le R (j := j) (by omega)
      rcases Int.lt_or_le ((j : Int) + 1) n with hlt | hge
      · have ln := nextS_len c (j : Int)
        have ls := stepS_len c ((j : Int) + 1)
        have hn : ∀ Γ, In Γ (.old w none_) → ∀ w', Mem w' Γ → CVN Tryz.prog 41 [.agg (ccells c h).toArray, nu (((j + 1 : Nat) : Int) - 1)] w' (CliR (nextS c (j : Int))) := by
          rw [show ((j + 1 : Nat) : Int) - 1 = (j : Int) by omega]
          exact hnx _ (by omega) (by omega)
        have hs1 : ∀ Γ, In Γ (.old w none_) → ∀ w', Mem w' Γ → CVN Tryz.prog 40 [.agg (ccells c h).toArray, nu ((j + 1 : Nat) : Int)] w' (CliR (stepS c ((j : Int) + 1))) := by
          rw [show ((j + 1 : Nat) : Int) = (j : Int) + 1 by omega]
          exact hst _ (by omega) (by omega)
        repeat' (first
|(apply GC_drawsP (id := 12) (C := [.vec encS 1 60 A kA ps]) [.q 0, .q 1, .q 2, .q 3, .q 4, .q 7, .q 8, .c 5, .c 6, .c 9, .c 10, .q 11, .c 12];exact mixed;kernel_rfl;kernel_rfl;(repeat first|exact Rems.nil|(apply Rems.cons;(focus ((repeat first|exact Rem.here|apply Rem.there|apply Rem.skip);done)))))
|(apply GS_nilP)
|(apply G_appVP (enc := encS);eq_refl;eq_refl;(intro A c;(repeat first|exact Upd.here|apply Upd.there|apply Upd.skip));infer_instance;(repeat first|exact In.here|apply In.there|apply In.skip);eq_refl;eq_refl;eq_refl;((try simp only [List.length_append]);omega);decide;intro _ _)
|(apply G_call;eq_refl;eq_refl;(apply hn;(repeat first|exact In.here|apply In.there|apply In.skip));rintro _ _ ⟨us, D2, kD2, rfl, hus, rfl⟩;have lu := map_len hus)
|(apply G_call;eq_refl;eq_refl;(apply hs1;(repeat first|exact In.here|apply In.there|apply In.skip));rintro _ _ ⟨vs, D3, kD3, rfl, hvs, rfl⟩;have lv := map_len hvs)
|(apply GC_seqK;intro K hK)
|(apply hK;clear hK K)
|(apply GC_block)
|(apply GC_region)
|(apply GL_nil)
|(apply thenG_normal)
|(apply blockG_normal)
|(apply GC_skip)
|(apply GC_if_true;eq_refl)
|(apply GL_on;eq_refl;eq_refl)
|(apply GS_qon;eq_refl;eq_refl;eq_refl;eq_refl)
|(apply GS_con;eq_refl;eq_refl;eq_refl;eq_refl)
|(apply G_pv;eq_refl;first|exact trivial|omega)
|(apply G_field;eq_refl)
|(apply G_ld;eq_refl;(repeat first|exact In.here|apply In.there|apply In.skip);eq_refl)
|(apply G_ldW;eq_refl;(repeat first|exact In.here|apply In.there|apply In.skip);eq_refl)
|(apply G_cmpT;eq_refl;eq_refl;omega)
|(apply G_st;(first|exact wr_p|kernel_rfl);eq_refl;eq_refl;eq_refl;eq_refl;(repeat first|exact Upd.here|apply Upd.there|apply Upd.skip);(first|decide|exact Nat.le_of_ble_eq_true rfl)))
        rename_i A5 k5 A6 k6
        refine ⟨(j + 1, ps ++ us ++ vs, A6, k6), (by repeat first | exact trivial | refine ⟨rfl, ?_⟩), ?_, ⟨by dsimp only; omega, ?_⟩, by dsimp only; omega⟩
        · dsimp only
          exact Wk.rows2 (by repeat first | exact Rem.here | apply Rem.there | apply Rem.skip) (by repeat first | exact Rem.here | apply Rem.there | apply Rem.skip) (by repeat first | exact Rem.here | apply Rem.there | apply Rem.skip) (by repeat first | exact Wk.nil | exact Wk.refl | (apply Wk.cons; (focus ((repeat first | exact Rem.here | apply Rem.there | apply Rem.skip); done))) | apply Wk.nilv | apply Wk.last | apply Wk.drop)
        · dsimp only
          rw [List.map_append, List.map_append, hps, hus, hvs]
          rfl
      · obtain rfl : n = (j : Int) + 1 := by omega
        repeat' (first
|(apply GC_seqK;intro K hK)
|(apply hK;clear hK K)
|(clear hK K;apply hK;clear hK K)
|(apply GC_region)
|(apply GL_nil)
|(apply thenG_normal)
|(apply thenG_exit)
|(apply blockG_hit)
|(apply GC_ret)
|(apply GC_exit)
|(apply GC_if_false;eq_refl)
|(apply retGC1r;eq_refl;(repeat first|exact In.here|apply In.there|apply In.skip);eq_refl;eq_refl)
|(apply GL_on;eq_refl;eq_refl)
|(apply G_pv;eq_refl;first|exact trivial|omega)
|(apply G_ldW;eq_refl;(repeat first|exact In.here|apply In.there|apply In.skip);eq_refl)
|(apply G_cmpF;eq_refl;eq_refl;omega)
|(apply G_stW;(first|exact wr_p|kernel_rfl);eq_refl;eq_refl;eq_refl;eq_refl;(repeat first|exact Upd.here|apply Upd.there|apply Upd.skip);eq_refl))
        exact ⟨[.vec encS 1 60 A kA ps, .any (bun (fam rowJ ps))], (by repeat first | exact Wk.nil | exact Wk.refl | (apply Wk.cons; (focus ((repeat first | exact Rem.here | apply Rem.there | apply Rem.skip); done))) | apply Wk.nilv | apply Wk.last | apply Wk.drop), ps, A, kA, rfl, by rw [show ((j : Int) + 1 - 1).toNat = j by omega]; exact hps, rfl⟩
  · rw [rnV_no (by rw [rnE_vr hz]; exact hz), rnL_no (by rw [rnE_vr hz]; exact hz), rnE_vr hz]
    rw [vrM_no hz] at hvr
    generalize vrE c n = ε at *
    repeat' (first
|(apply G_call;eq_refl;eq_refl;(apply hvr;(repeat first|exact In.here|apply In.there|apply In.skip));rintro _ _ ⟨rfl, rfl⟩)
|(apply GC_seqK;intro K hK)
|(apply hK;clear hK K)
|(apply GC_region)
|(apply GL_nil)
|(apply thenG_normal)
|(apply thenG_ret)
|(apply GC_ret)
|(apply GC_if_true;eq_refl)
|(apply retGC1r;eq_refl;(repeat first|exact In.here|apply In.there|apply In.skip);eq_refl;eq_refl)
|(apply GL_on;eq_refl;eq_refl)
|(apply G_pv;eq_refl;first|exact trivial|omega)
|(apply G_ldW;eq_refl;(repeat first|exact In.here|apply In.there|apply In.skip);eq_refl)
|(apply G_cmpT;eq_refl;eq_refl;omega)
|(apply G_alloc;eq_refl;intro _)
|(apply G_box;eq_refl;eq_refl;intro _)
|(apply G_stW;(first|exact wr_p|kernel_rfl);eq_refl;eq_refl;eq_refl;eq_refl;(repeat first|exact Upd.here|apply Upd.there|apply Upd.skip);eq_refl)
|(apply GX_pure;apply build57_))
    exact ⟨[.vec encS 1 60 none 0 [], .any (bun (fam rowJ []))], Wk.nilv (rows_nil (by repeat first | exact Wk.nil | exact Wk.refl | (apply Wk.cons; (focus ((repeat first | exact Rem.here | apply Rem.there | apply Rem.skip); done))) | apply Wk.nilv | apply Wk.last | apply Wk.drop)), [], none, 0, rfl, rfl, rfl⟩
end SC
end Go.Proofs.YtbmngkdnebklpaaGreat
end
section
/- The reference's Run. -/
set_option linter.unusedVariables false
set_option linter.unusedSimpArgs false
namespace Go.Proofs.YtbmngkdnebklpaaGreat
namespace SC
open Go.Proofs
attribute [local irreducible] WC WL WX WS WO OX Does DoesU Enters CV Pure thenQ blockQ retQ Wants retQC GC GL GS GX RdB thenG blockG retG Rd At gt CVN CVM
set_option maxRecDepth 100000
end SC
end Go.Proofs.YtbmngkdnebklpaaGreat
end
section
/- trestlelaw16: works, cost. -/
set_option linter.unusedVariables false
set_option linter.unusedSimpArgs false
namespace Go.Proofs.YtbmngkdnebklpaaGreat
namespace SC
open Go.Proofs
def cLt : Circ := ⟨1, [], [(2, 3, 0)], [], [], [], [], [], [], [], []⟩
theorem cLt_sizes : sizesM cLt = 0 := by
  unfold sizesM
  rw [if_neg (by simp [cLt]), if_neg]
  simp [cLt, Circ.lens, sumW, sumL]; decide
theorem cLt_defs : definesM cLt (T0 cLt) = ((0, 0), [(0, 0), (2, 0)]) := by decide
theorem cLt_tab : tabM cLt = [(0, 0), (2, 0)] := by unfold tabM; rw [cLt_defs]
theorem cLt_uses : usesM cLt (tabM cLt) = (0, 0) := by rw [cLt_tab]; decide
theorem cLt_all : All 0 (gateB (tabM cLt) cLt) [] := ⟨.nil, fun x hx => by have := hx.rg; unfold rg at this; omega⟩
theorem cLt_look : (lookM cLt).2 = 0 := by
  have hc : cycM cLt.ands.length (gateB (tabM cLt) cLt) = -1 := cycM_eq ⟨[], cLt_all, .inl ⟨rfl, rfl⟩⟩
  unfold lookM
  rw [cLt_sizes, cLt_defs, cLt_uses, hc]
  simp [cLt, goSym, goCom]
theorem cLt_sane : cLt.Sane := ⟨by simp [cLt], by simp [cLt], by simp [cLt], by simp [cLt], by simp [cLt], by simp [cLt]⟩
theorem cLt_okay : cLt.Okay := ⟨by simp [cLt, Circ.lens], by simp [cLt], (by intro x hx; simp [cLt] at hx; subst hx; simp [TriFits, fit64, fits]), by simp [cLt], by simp [cLt]⟩
theorem cLt_fits : cLt.Fits := ⟨by simp [cLt], by simp [cLt], by simp [cLt], by simp [cLt], by simp [cLt], by simp [cLt], by simp [cLt], by simp [cLt], by simp [cLt], by simp [cLt], by simp [cLt]⟩
def hLt (a : Nat) : Hd := fun | 2 => (some ⟨a, 0, none⟩, 1) | _ => (none, 0)
theorem cLt_in {w : World} {a : Nat} (ha : Blk w a 52 [nu 2, nu 3, nu 0]) : CirIn w cLt (hLt a) hNil :=
  ⟨⟨RowA.emp, RowA.blk (l := [(2, 3, 0)]) tlen ha, RowA.emp, RowA.emp, RowA.emp, fun k hk => absurd hk (Nat.not_lt_zero _), fun k hk => absurd hk (Nat.not_lt_zero _), RowA.emp, RowA.emp, RowA.emp, RowA.emp⟩, cLt_sane, cLt_okay, cLt_fits⟩
theorem cLt_ltE : ltE cLt 3 3 = 0 := by
  rw [ltE_in cLt_look (by decide)]
  exact ftE_ok cLt_look (by decide) (by decide)
theorem cLt_ltM : ltM cLt 3 3 = -5 := by rw [ltM_ok cLt_ltE]; decide
theorem cLt_vrE : vrE cLt 2 = 0 := vrE_ok cLt_look (by decide) (by decide)
theorem cLt_rnE : rnE cLt 2 = 0 := rnE_ok cLt_vrE (by unfold rnN; decide)
theorem cLt_rnV : rnV cLt 2 = 3 := by rw [rnV_ok cLt_rnE]; decide
theorem cLt_rnL : rnL cLt 2 = [[-1], [-2], [-3, -2], [3, 2]] := by rw [rnL_ok cLt_rnE]; decide
theorem cost_cv {w : World} {c : Circ} {h : Hd} {n : Int} : CVN Tryz.prog 4 [.agg (ccells c h).toArray, nu n] w fun v N => N = [] ∧ v = .bool (decide (40 < n ∧ 30 < c.max)) := by
  refine CVN.enter 12 [4] Tryz.func4 rfl rfl rfl (by decide) rfl ?_
  by_cases h1 : 40 < n
  · by_cases h2 : 30 < c.max
    · rw [decide_eq_true ⟨h1, h2⟩]
      repeat' (first
|(apply GC_seqK;intro K hK)
|(apply hK;clear hK K)
|(apply GC_region)
|(apply GL_nil)
|(apply GC_ret)
|(apply retG1;eq_refl)
|(apply GL_on;eq_refl;eq_refl)
|(apply G_pv;eq_refl;first|exact trivial|omega)
|(apply G_field;eq_refl)
|(apply G_ld;eq_refl;(repeat first|exact In.here|apply In.there|apply In.skip);eq_refl)
|(apply G_cmpT;eq_refl;eq_refl;omega)
|(apply G_box;eq_refl;eq_refl;intro _))
      exact ⟨[], (by repeat first | exact Wk.nil | exact Wk.refl | (apply Wk.cons; (focus ((repeat first | exact Rem.here | apply Rem.there | apply Rem.skip); done))) | apply Wk.nilv | apply Wk.last | apply Wk.drop), rfl, rfl⟩
    · rw [decide_eq_false (fun h => h2 h.2)]
      repeat' (first
|(apply GC_seqK;intro K hK)
|(apply hK;clear hK K)
|(apply GC_region)
|(apply GL_nil)
|(apply GC_ret)
|(apply retG1;eq_refl)
|(apply GL_on;eq_refl;eq_refl)
|(apply G_pv;eq_refl;first|exact trivial|omega)
|(apply G_field;eq_refl)
|(apply G_ld;eq_refl;(repeat first|exact In.here|apply In.there|apply In.skip);eq_refl)
|(apply G_cmpT;eq_refl;eq_refl;omega)
|(apply G_cmpF;eq_refl;eq_refl;omega)
|(apply G_box;eq_refl;eq_refl;intro _))
      exact ⟨[], (by repeat first | exact Wk.nil | exact Wk.refl | (apply Wk.cons; (focus ((repeat first | exact Rem.here | apply Rem.there | apply Rem.skip); done))) | apply Wk.nilv | apply Wk.last | apply Wk.drop), rfl, rfl⟩
  · rw [decide_eq_false (fun h => h1 h.1)]
    repeat' (first
|(apply GC_seqK;intro K hK)
|(apply hK;clear hK K)
|(apply GC_region)
|(apply GL_nil)
|(apply GC_ret)
|(apply retG1;eq_refl)
|(apply GL_on;eq_refl;eq_refl)
|(apply GL_off;eq_refl;eq_refl)
|(apply G_pv;eq_refl;first|exact trivial|omega)
|(apply G_cmpF;eq_refl;eq_refl;omega)
|(apply G_box;eq_refl;eq_refl;intro _))
    exact ⟨[], (by repeat first | exact Wk.nil | exact Wk.refl | (apply Wk.cons; (focus ((repeat first | exact Rem.here | apply Rem.there | apply Rem.skip); done))) | apply Wk.nilv | apply Wk.last | apply Wk.drop), rfl, rfl⟩
attribute [local irreducible] WC WL WX WS WO OX Does DoesU Enters CV Pure thenQ blockQ retQ Wants retQC GC GL GS GX RdB thenG blockG retG Rd At CVN CVM
set_option maxRecDepth 100000
set_option maxHeartbeats 800000 in
theorem works16_cv {w : World} : CVN Tryz.prog 5 [] w fun v N => N = [] ∧ v = .bool true := by
  have hlt : ∀ Γ a, In Γ (.box a 52 [nu 2, nu 3, nu 0]) → ∀ w', Mem w' Γ → CVN Tryz.prog 17 [.agg (ccells cLt (hLt a)).toArray, nu 3, nu 3] w' fun v N => N = [] ∧ v = .tuple #[nu (-5), nu 0] := fun Γ a h1 w' M => by
    have := LitP16_cv (l := 3) (t := 3) (cLt_in (h1.box M)) (by decide)
    rwa [cLt_ltM, cLt_ltE] at this
  have hrun : ∀ Γ a, In Γ (.box a 52 [nu 2, nu 3, nu 0]) → ∀ w', Mem w' Γ → CVN Tryz.prog 18 [.agg (ccells cLt (hLt a)).toArray, nu 2] w' fun v N => ∃ (h0 h1 h2 h3 : Hdl) (A : Option Addr) (k : Nat), v = .tuple #[.agg #[nu 3, .slice A 4 k], nu 0] ∧ N = [.vec icell 1 3 h3.1 h3.2 [3, 2], .vec icell 1 3 h2.1 h2.2 [-3, -2], .vec icell 1 3 h1.1 h1.2 [-2], .vec icell 1 3 h0.1 h0.2 [-1], .vec encS 1 60 A k [(h0, [-1]), (h1, [-2]), (h2, [-3, -2]), (h3, [3, 2])]] := fun Γ a h1 w' M => by
    refine (RunP16_cv (n := 2) (cLt_in (h1.box M))).wk ?_
    rintro v N ⟨ps, A, k, rfl, hps, rfl⟩
    rw [cLt_rnL] at hps
    rw [cLt_rnV, cLt_rnE]
    match ps, hps with
    | [(q0, l0), (q1, l1), (q2, l2), (q3, l3)], hps =>
      simp only [List.map_cons, List.map_nil, List.cons.injEq, and_true] at hps
      obtain ⟨rfl, rfl, rfl, rfl⟩ := hps
      exact ⟨_, Wk.part (.cons (.there .here) .nil) bun_out .refl, q0, q1, q2, q3, A, k, rfl, rfl⟩
    | [], hps => simp at hps
    | [_], hps => simp at hps
    | [_, _], hps => simp at hps
    | [_, _, _], hps => simp at hps
    | _ :: _ :: _ :: _ :: _ :: _, hps => simp at hps
  refine CVN.enter 66 [0] Tryz.func5 rfl rfl rfl (by decide) rfl ?_
  repeat' (first
|(apply G_cmpT;eq_refl;eq_refl;(exact rfl))
|(apply G_ix;eq_refl;eq_refl;(first|(apply Rd.own;(repeat first|exact In.here|apply In.there|apply In.skip);infer_instance)|(apply Rd.old;(repeat first|exact In.here|apply In.there|apply In.skip);assumption)|(apply Rd.oldR;(repeat first|exact In.here|apply In.there|apply In.skip);assumption)|exact Rd.nil|assumption);eq_refl;(focus simp);(first|(exact (show (0 : Int) < ((2 : Nat) : Int) by decide))|(exact (show (1 : Int) < ((2 : Nat) : Int) by decide))|(exact (show (2 : Int) < ((4 : Nat) : Int) by decide))))
|(apply G_rd;eq_refl;(first|(apply Rd.own;(repeat first|exact In.here|apply In.there|apply In.skip);infer_instance)|(apply Rd.old;(repeat first|exact In.here|apply In.there|apply In.skip);assumption)|(apply Rd.oldR;(repeat first|exact In.here|apply In.there|apply In.skip);assumption)|exact Rd.nil|assumption);(case ih => infer_instance);(focus simp);(first|(exact (show (0 : Int) < ((2 : Nat) : Int) by decide))|(exact (show (1 : Int) < ((2 : Nat) : Int) by decide))|(exact (show (2 : Int) < ((4 : Nat) : Int) by decide)));eq_refl)
|(apply G_call;eq_refl;eq_refl;(apply hlt;(repeat first|exact In.here|apply In.there|apply In.skip));rintro _ _ ⟨rfl, rfl⟩)
|(apply G_call;eq_refl;eq_refl;(apply hrun;(repeat first|exact In.here|apply In.there|apply In.skip));rintro _ _ ⟨h0, h1, h2, h3, A, k, rfl, rfl⟩)
|(apply GC_seqK;intro K hK)
|(apply hK;clear hK K)
|(apply GC_region)
|(apply GL_nil)
|(apply thenG_normal)
|(apply GC_ret)
|(apply retG1;eq_refl)
|(apply GL_on;eq_refl;eq_refl)
|(apply G_pv;eq_refl;first|exact trivial|omega)
|(apply G_field;eq_refl)
|(apply G_ld;eq_refl;(repeat first|exact In.here|apply In.there|apply In.skip);eq_refl)
|(apply G_ldW;eq_refl;(repeat first|exact In.here|apply In.there|apply In.skip);eq_refl)
|(apply G_len;eq_refl)
|(apply G_alloc;eq_refl;intro _)
|(apply G_stW;(first|exact wr_p|kernel_rfl);eq_refl;eq_refl;eq_refl;eq_refl;(repeat first|exact Upd.here|apply Upd.there|apply Upd.skip);eq_refl)
|(apply GX_pure;apply build52_0_1 <;> eq_refl)
|(apply GX_pure;apply build29_0_2 <;> eq_refl)
|(apply G_new (fun b => .slice (some ⟨b, 0, none⟩) 1 1);eq_refl;(intro _;apply buildS23_1 <;> eq_refl);intro _))
  exact ⟨[], (by repeat first | exact Wk.nil | exact Wk.refl | (apply Wk.cons; (focus ((repeat first | exact Rem.here | apply Rem.there | apply Rem.skip); done))) | apply Wk.nilv | apply Wk.last | apply Wk.drop), rfl, rfl⟩
end SC
end Go.Proofs.YtbmngkdnebklpaaGreat
end
section
/- trestlelaw16: FramesRuns, FramesParts: the walks. -/
set_option linter.unusedVariables false
set_option linter.unusedSimpArgs false
namespace Go.Proofs.YtbmngkdnebklpaaGreat
namespace SC
open Go.Proofs
theorem CVM.same {P : Program} {f : FuncId} {args : List Value} {w : World} {C C' : Mm} {R : Value → Mm → Prop} (h : CVM P f args w C' R) (he : ∀ k, owns C' k ↔ owns C k) : CVM P f args w C R := by
  have e : owns C' = owns C := funext fun k => propext (he k)
  unfold CVM at h ⊢
  rw [e] at h
  exact h
theorem owns_bun {Δ : Mm} {k : Nat} : owns Δ k ↔ owns [.any (bun Δ)] k := by rw [owns_cons]; exact ⟨fun h => .inl h, fun h => h.elim id fun h => absurd h owns_nil⟩
attribute [local irreducible] WC WL WX WS WO OX Does DoesU Enters CV Pure thenQ blockQ retQ Wants retQC GC GL GS GX RdB thenG blockG retG Rd At gt CVN CVM
attribute [local irreducible] lentX bun
set_option maxRecDepth 100000
end SC
end Go.Proofs.YtbmngkdnebklpaaGreat
end
section
/- A formula is the circuit, step by step: the plain law. -/
set_option linter.unusedVariables false
set_option linter.unusedSimpArgs false
namespace Go.Proofs.YtbmngkdnebklpaaGreat
namespace SC
open Go.Proofs
/-! ### truth of literals, clauses, formulas -/
/-- The values of one step out of a model. -/
def cut (mx : Int) (md : List Bool) (k : Nat) : List Bool := gt md 0 :: (md.drop (k * mx.toNat + 1)).take mx.toNat
theorem cut_gt {mx : Int} {md : List Bool} {k : Nat} {x : Int} (h1 : 1 ≤ x) (h2 : x ≤ mx) : gt (cut mx md k) x = gt md ((k : Int) * mx + x) := by
  obtain ⟨j, rfl⟩ : ∃ j : Nat, x = (j : Int) + 1 := ⟨(x - 1).toNat, by omega⟩
  obtain ⟨M, rfl⟩ : ∃ M : Nat, mx = (M : Int) := ⟨mx.toNat, by omega⟩
  have e1 : ((j : Int) + 1).toNat = j + 1 := by omega
  have e2 : ((k : Int) * (M : Int) + ((j : Int) + 1)).toNat = k * M + 1 + j := by
    rw [← Int.natCast_mul]
    omega
  rw [gtB, gtB, e1, e2]
  unfold cut
  rw [Int.toNat_natCast, List.getD_cons_succ, List.getD_eq_getElem?_getD, List.getElem?_take, if_pos (by omega), List.getElem?_drop, List.getD_eq_getElem?_getD]
section
variable {c : Circ} {md : List Bool} {k : Nat}
/-- The values of a step of a run. -/
noncomputable def vk (c : Circ) (t : Trc) (k : Nat) : List Bool := valM c (stM c t k) (gt t.rows (k : Int)).2
end
end SC
end Go.Proofs.YtbmngkdnebklpaaGreat
end
section
/- Lists of numbers and numbers that come in. -/
set_option linter.unusedVariables false
set_option linter.unusedSimpArgs false
namespace Go.Proofs.YtbmngkdnebklpaaGreat
namespace SC
open Go.Proofs
set_option maxRecDepth 100000
section
variable {H : Type} {enc : TypeId × Value → H} {W : World} {base : Nat} {spare : Nat → Bool} {held : Bool}
end
end SC
end Go.Proofs.YtbmngkdnebklpaaGreat
end
section
/- frames: Trace: the walk. -/
set_option linter.unusedVariables false
set_option linter.unusedSimpArgs false
namespace Go.Proofs.YtbmngkdnebklpaaGreat
namespace SC
open Go.Proofs
/-- What is wrong with a model of so many steps. -/
noncomputable def trE (c : Circ) (n : Int) (md : List Bool) : Int := if vrE c n ≠ 0 then vrE c n else if (md.length : Int) ≠ 1 + n * c.max then 4 else 0
theorem trE_vr {c : Circ} {n : Int} {md : List Bool} (h : vrE c n ≠ 0) : trE c n md = vrE c n := if_pos h
theorem trE_len {c : Circ} {n : Int} {md : List Bool} (h : vrE c n = 0) (h2 : (md.length : Int) ≠ 1 + n * c.max) : trE c n md = 4 := by unfold trE; rw [if_neg (by omega), if_pos h2]
theorem trE_ok {c : Circ} {n : Int} {md : List Bool} (h : vrE c n = 0) (h2 : (md.length : Int) = 1 + n * c.max) : trE c n md = 0 := by unfold trE; rw [if_neg (by omega), if_neg (by omega)]
theorem trE_zero {c : Circ} {n : Int} {md : List Bool} (h : trE c n md = 0) : vrE c n = 0 ∧ (md.length : Int) = 1 + n * c.max := by
  unfold trE at h
  split at h
  · exact absurd h (by assumption)
  · split at h
    · cases h
    · exact ⟨by omega, by omega⟩
def trI (c : Circ) (md : List Bool) : List Bool := c.latches.map fun x => gt (cut c.max md 0) (x.1 / 2)
def trW (c : Circ) (md : List Bool) (k : Nat) : List Bool := c.inputs.map fun l => gt (cut c.max md k) (l / 2)
def trR (c : Circ) (md : List Bool) (n : Nat) : List (List Bool) := (List.range n).map (trW c md)
theorem trR_succ (c : Circ) (md : List Bool) (n : Nat) : trR c md (n + 1) = trR c md n ++ [trW c md n] := by unfold trR; rw [List.range_succ, List.map_append]; rfl
/-- A trace and an error as an answer. -/
def TrR (ini : List Bool) (rs : List (List Bool)) (lp ε : Int) (v : Value) (N : Mm) : Prop := ∃ ps a b, v = .tuple #[.agg (tcs ⟨ini, ps, lp⟩ a b).toArray, nu ε] ∧ ps.map (·.2) = rs ∧ N = trcB ⟨ini, ps, lp⟩ a b
theorem at_def {c : Circ} {k : Nat} {n l : Int} {md : List Bool} (g : defR c l) (hk : (k : Int) < n) (hmd : (md.length : Int) = 1 + n * c.max) : 1 ≤ atM c.max l (k : Int) ∧ atM c.max l (k : Int) ≤ md.length ∧ gt md (atM c.max l (k : Int) - 1) = gt (cut c.max md k) (l / 2) := by
  unfold defR at g
  have h1 : ((k : Int) + 1) * c.max ≤ n * c.max := Int.mul_le_mul_of_nonneg_right (by omega) (by omega)
  have h2 : 0 ≤ (k : Int) * c.max := Int.mul_nonneg (by omega) (by omega)
  rw [Int.add_mul, Int.one_mul] at h1
  unfold atM
  rw [if_neg (by omega), if_pos (by omega), cut_gt (by omega) (by omega), show 1 + (k : Int) * c.max + l / 2 - 1 = (k : Int) * c.max + l / 2 by omega]
  exact ⟨by omega, by omega, rfl⟩
attribute [local irreducible] WC WL WX WS WO OX Does DoesU Enters CV Pure thenQ blockQ retQ Wants retQC GC GL GS GX RdB thenG blockG retG Rd At gt CVN CVM
set_option maxRecDepth 100000
set_option maxHeartbeats 1600000 in
theorem TraceP_cv {w : World} {c : Circ} {h js : Hd} {n : Int} {S : Option Addr} {k2 : Nat} {md : List Bool} (H : CirIn w c h js) (hS : RowA w booc 1 S md) (hn : md.length ≤ 9223372036854775807) :
    CVN Tryz.prog 8 [.agg (ccells c h).toArray, nu n, .slice S md.length k2] w (TrR (if trE c n md = 0 then trI c md else []) (if trE c n md = 0 then trR c md n.toNat else []) (if trE c n md = 0 then -1 else 0) (trE c n md)) := by
  have hvr : ∀ Γ, In Γ (.old w none_) → ∀ w', Mem w' Γ → CVN Tryz.prog 21 [.agg (ccells c h).toArray, nu n] w' _ := fun Γ hi w' M => VarsP16_cv (H.chg (hi.old M))
  have hLat := H.at_.latches
  have hInp := H.at_.inputs
  refine CVN.enterC1 (t := 33) 93 6 7 Tryz.func8 rfl rfl rfl rfl ?_
  by_cases hz : vrE c n = 0
  · obtain ⟨he, n1, n2, n3⟩ := vrE_zero hz
    have R := right_of H.at_ H.sane he
    have m0 := R.m0
    have m1 := R.m1
    have l1 := R.nIn
    have l2 := R.nLat
    rw [hz, vrM_ok hz] at hvr
    by_cases hl : (md.length : Int) = 1 + n * c.max
    · rw [trE_ok hz hl, if_pos rfl, if_pos rfl, if_pos rfl]
      have hat : ∀ (k : Nat) (l : Int), (k : Int) < n → defR c l → ∀ Γ, ∀ w', Mem w' Γ → CVN Tryz.prog 22 [.agg (ccells c h).toArray, nu l, nu (k : Int)] w' fun v N => N = [] ∧ v = nu (atM c.max l (k : Int)) := fun k l hk g Γ w' M => by
        unfold defR at g
        obtain ⟨z0, z1⟩ := mul_le (by omega : 0 ≤ (k : Int)) (by omega : (k : Int) ≤ 600) m0 m1
        exact at_cv (h := h) (by omega) (by omega) z0 z1
      repeat' (first
|(apply G_call;eq_refl;eq_refl;(apply hvr;(repeat first|exact In.here|apply In.there|apply In.skip));rintro _ _ ⟨rfl, rfl⟩)
|(apply GC_seqK;intro K hK)
|(apply hK;clear hK K)
|(apply GC_block)
|(apply GC_region)
|(apply GL_nil)
|(apply thenG_normal)
|(apply GC_skip)
|(apply GC_if_false;eq_refl)
|(apply GL_on;eq_refl;eq_refl)
|(apply G_pv;eq_refl;first|exact trivial|omega)
|(apply G_field;eq_refl)
|(apply G_ld;eq_refl;(repeat first|exact In.here|apply In.there|apply In.skip);eq_refl)
|(apply G_ldW;eq_refl;(repeat first|exact In.here|apply In.there|apply In.skip);eq_refl)
|(apply G_cmpF;eq_refl;eq_refl;omega)
|(apply G_len;eq_refl)
|(apply G_alloc;eq_refl;intro _)
|(apply G_box;eq_refl;eq_refl;intro _)
|(apply G_stW;(first|exact wr_p|kernel_rfl);eq_refl;eq_refl;eq_refl;eq_refl;(repeat first|exact Upd.here|apply Upd.there|apply Upd.skip);eq_refl)
|(apply GX_pure;apply build66_0 <;> eq_refl)
|(apply GX_pure;apply build33_2 <;> eq_refl))
      rename_i b3 b6 b10 b11
      refine GC_loopK [1, 2, 3, 6, 10, 11, 37, 38] (fun s : Nat × List Bool × Option Addr × Nat => [(39, nu s.1)]) (fun s => [.box b11 33 [.slice s.2.2.1 s.2.1.length s.2.2.2, .slice none 0 0, nu (-1)], .vec booc 1 4 s.2.2.1 s.2.2.2 s.2.1, .box b10 66 (ccells c h), .box b6 33 [.slice none 0 0, .slice none 0 0, nu 0], .box b3 29 (ccells c h), .old w none_])
        (fun s => s.1 ≤ c.latches.length ∧ s.2.1 = (c.latches.take s.1).map fun x => gt (cut c.max md 0) (x.1 / 2)) (fun s => c.latches.length - s.1) (0, [], none, 0) (by repeat first | exact Pick.nil | (apply Pick.cons; eq_refl)) (by repeat first | exact trivial | refine ⟨rfl, ?_⟩) (by repeat first | exact Wk.nil | exact Wk.refl | (apply Wk.cons; (focus ((repeat first | exact Rem.here | apply Rem.there | apply Rem.skip); done))) | apply Wk.nilv | apply Wk.last | apply Wk.drop) ⟨Nat.zero_le _, rfl⟩ ?_
      rintro ⟨i, ini, A, kA⟩ ⟨hi, hini⟩
      dsimp only at hi hini ⊢
      have hil : ini.length = i := by have := congrArg List.length hini; simp at this; omega
      rcases Nat.lt_or_ge i c.latches.length with hlt | hge
      · have g1 := (R.lat (gt_mem (l := c.latches) (i := (i : Int)) (by omega) (by omega))).1
        obtain ⟨q1, q2, q3⟩ := at_def (k := 0) g1 (by omega) hl
        have ha := hat 0 _ (by omega) g1
        have e5 := List.take_succ_eq_append_getElem hlt
        rw [← gt_nat hlt] at e5
        rw [show ((0 : Nat) : Int) = 0 by omega] at q1 q2 q3 ha
        generalize atM c.max (gt c.latches (i : Int)).1 0 = y at *
        repeat' (first
|(apply G_call;eq_refl;eq_refl;(apply ha);rintro _ _ ⟨rfl, rfl⟩)
|(apply GC_seqK;intro K hK)
|(apply hK;clear hK K)
|(apply GC_block)
|(apply GC_region)
|(apply GL_nil)
|(apply thenG_normal)
|(apply blockG_normal)
|(apply GC_skip)
|(apply GC_if_true;eq_refl)
|(apply GL_on;eq_refl;eq_refl)
|(refine GC_draws (id := 11) [.q 0, .q 1, .q 2, .q 3, .q 4, .q 5, .c 6, .q 7, .q 8, .q 9, .c 10, .c 11, .q 12, .c 13] mixed (by kernel_rfl) (by kernel_rfl) ?_)
|(apply GS_nil)
|(apply GS_qon;eq_refl;eq_refl;eq_refl;eq_refl)
|(apply GS_con;eq_refl;eq_refl;eq_refl;eq_refl)
|(apply G_pv;eq_refl;first|exact trivial|omega)
|(apply G_field;eq_refl)
|(apply G_ld;eq_refl;(repeat first|exact In.here|apply In.there|apply In.skip);eq_refl)
|(apply G_ldW;eq_refl;(repeat first|exact In.here|apply In.there|apply In.skip);eq_refl)
|(apply G_rd;eq_refl;(first|(apply Rd.own;(repeat first|exact In.here|apply In.there|apply In.skip);infer_instance)|(apply Rd.old;(repeat first|exact In.here|apply In.there|apply In.skip);assumption)|(apply Rd.oldR;(repeat first|exact In.here|apply In.there|apply In.skip);assumption)|exact Rd.nil|assumption);(case ih => infer_instance);omega;omega;eq_refl)
|(apply G_rdW;eq_refl;(first|(apply Rd.own;(repeat first|exact In.here|apply In.there|apply In.skip);infer_instance)|(apply Rd.old;(repeat first|exact In.here|apply In.there|apply In.skip);assumption)|(apply Rd.oldR;(repeat first|exact In.here|apply In.there|apply In.skip);assumption)|exact Rd.nil|assumption);infer_instance;(case ih => infer_instance);omega;omega)
|(apply G_cmpT;eq_refl;eq_refl;omega)
|(apply G_ix;eq_refl;eq_refl;(first|(apply Rd.own;(repeat first|exact In.here|apply In.there|apply In.skip);infer_instance)|(apply Rd.old;(repeat first|exact In.here|apply In.there|apply In.skip);assumption)|(apply Rd.oldR;(repeat first|exact In.here|apply In.there|apply In.skip);assumption)|exact Rd.nil|assumption);(first|eq_refl|omega);omega;omega)
|(apply G_alloc;eq_refl;intro _)
|(apply G_st;(first|exact wr_p|kernel_rfl);eq_refl;eq_refl;eq_refl;eq_refl;(repeat first|exact Upd.here|apply Upd.there|apply Upd.skip);(first|decide|exact Nat.le_of_ble_eq_true rfl))
|(apply G_stW;(first|exact wr_p|kernel_rfl);eq_refl;eq_refl;eq_refl;eq_refl;(repeat first|exact Upd.here|apply Upd.there|apply Upd.skip);eq_refl)
|(apply G_app;(first|exact wr_p|kernel_rfl);eq_refl;eq_refl;(intro A c;(repeat first|exact Upd.here|apply Upd.there|apply Upd.skip));infer_instance;(repeat first|exact In.here|apply In.there|apply In.skip);(repeat first|exact Dec.nil|apply Dec.pr|apply Dec.tr|(apply Dec.c1;eq_refl)|(apply Dec.c2;eq_refl)|(apply Dec.c3;eq_refl));eq_refl;eq_refl;eq_refl;((try simp only [List.length_append, List.length_cons, List.length_nil]);omega);decide;intro _ _)
|(apply G_new (fun b => .slice (some ⟨b, 0, none⟩) 1 1);eq_refl;(intro _;apply buildS30_1 <;> eq_refl);intro _))
        rename_i b13 A8 k8
        refine ⟨(i + 1, ini ++ [gt md (y - 1)], A8, k8), (by repeat first | exact trivial | refine ⟨rfl, ?_⟩), (by repeat first | exact Wk.nil | exact Wk.refl | (apply Wk.cons; (focus ((repeat first | exact Rem.here | apply Rem.there | apply Rem.skip); done))) | apply Wk.nilv | apply Wk.last | apply Wk.drop), ⟨hlt, ?_⟩, by dsimp only; omega⟩
        dsimp only
        rw [e5, List.map_append, ← hini, q3]
        rfl
      · obtain rfl : i = c.latches.length := by omega
        rw [List.take_length] at hini
        obtain rfl : ini = trI c md := hini
        repeat' (first
|(apply GC_seqK;intro K hK)
|(apply hK;clear hK K)
|(clear hK K;apply hK;clear hK K)
|(apply GC_block)
|(apply GC_region)
|(apply GL_nil)
|(apply thenG_normal)
|(apply thenG_exit)
|(apply blockG_hit)
|(apply GC_exit)
|(apply GC_if_false;eq_refl)
|(apply GL_on;eq_refl;eq_refl)
|(apply G_pv;eq_refl;first|exact trivial|omega)
|(apply G_cmpF;eq_refl;eq_refl;omega))
        refine GC_loopK [1, 2, 3, 6, 10, 11, 57] (fun s : Nat × List (Hdl × List Bool) × Option Addr × Nat => [(58, nu s.1)]) (fun s => .box b11 33 [.slice A (trI c md).length kA, .slice s.2.2.1 s.2.1.length s.2.2.2, nu (-1)] :: .vec booc 1 4 A kA (trI c md) :: .vec encS 1 30 s.2.2.1 s.2.2.2 s.2.1 :: .box b10 66 (ccells c h) :: .box b6 33 [.slice none 0 0, .slice none 0 0, nu 0] :: .box b3 29 (ccells c h) :: .old w none_ :: fam rowE s.2.1)
          (fun s => (s.1 : Int) ≤ n ∧ s.2.1.map (·.2) = trR c md s.1) (fun s => n.toNat - s.1) (0, [], none, 0) (by repeat first | exact Pick.nil | (apply Pick.cons; eq_refl)) (by repeat first | exact trivial | refine ⟨rfl, ?_⟩) (by repeat first | exact Wk.nil | exact Wk.refl | (apply Wk.cons; (focus ((repeat first | exact Rem.here | apply Rem.there | apply Rem.skip); done))) | apply Wk.nilv | apply Wk.last | apply Wk.drop) ⟨by dsimp only; omega, rfl⟩ ?_
        rintro ⟨k, ps, B, kB⟩ ⟨hk, hps⟩
        dsimp only at hk hps ⊢
        have hpl : ps.length = k := by rw [map_len hps]; unfold trR; simp
        rcases Int.lt_or_le (k : Int) n with hlt | hge
        · have fl0 : fillL (fun l => gt (cut c.max md k) (l / 2)) c.inputs false 0 = List.replicate c.inputs.length false := fillL_0
          repeat' (first
|(apply G_make booc;eq_refl;eq_refl;eq_refl;omega;decide;intro b15)
|(apply GC_seqK;intro K hK)
|(apply hK;clear hK K)
|(apply GC_block)
|(apply GC_region)
|(apply GL_nil)
|(apply thenG_normal)
|(apply GC_skip)
|(apply GC_if_true;eq_refl)
|(apply GL_on;eq_refl;eq_refl)
|(apply G_pv;eq_refl;first|exact trivial|omega)
|(apply G_field;eq_refl)
|(apply G_ld;eq_refl;(repeat first|exact In.here|apply In.there|apply In.skip);eq_refl)
|(apply G_cmpT;eq_refl;eq_refl;omega)
|(apply G_len;eq_refl))
          refine GC_loopK [1, 2, 3, 6, 10, 11, 14, 15, 57, 58, 66, 67] (fun s : Nat × List Bool => [(68, nu s.1)]) (fun s => .vec booc 1 4 (some ⟨b15, 0, none⟩) c.inputs.length s.2 :: .box b11 33 [.slice A (trI c md).length kA, .slice B ps.length kB, nu (-1)] :: .vec booc 1 4 A kA (trI c md) :: .vec encS 1 30 B kB ps :: .box b10 66 (ccells c h) :: .box b6 33 [.slice none 0 0, .slice none 0 0, nu 0] :: .box b3 29 (ccells c h) :: .old w none_ :: fam rowE ps)
            (fun s => s.1 ≤ c.inputs.length ∧ s.2 = fillL (fun l => gt (cut c.max md k) (l / 2)) c.inputs false s.1) (fun s => c.inputs.length - s.1) (0, List.replicate c.inputs.length false) (by repeat first | exact Pick.nil | (apply Pick.cons; eq_refl)) (by repeat first | exact trivial | refine ⟨rfl, ?_⟩) (by repeat first | exact Wk.nil | exact Wk.refl | (apply Wk.cons; (focus ((repeat first | exact Rem.here | apply Rem.there | apply Rem.skip); done))) | apply Wk.nilv | apply Wk.last | apply Wk.drop) ⟨Nat.zero_le _, fl0.symm⟩ ?_
          rintro ⟨i, row⟩ ⟨hi2, hrow⟩
          dsimp only at hi2 hrow ⊢
          have hrl : row.length = c.inputs.length := by rw [hrow]; exact fillL_len hi2
          rcases Nat.lt_or_ge i c.inputs.length with hlt2 | hge2
          · have g1 := R.inp (gt_mem (l := c.inputs) (i := (i : Int)) (by omega) (by omega))
            obtain ⟨q1, q2, q3⟩ := at_def (k := k) g1 hlt hl
            have ha := hat k _ hlt g1
            have e5 := fillL_set (f := fun l => gt (cut c.max md k) (l / 2)) (z := false) hlt2
            rw [← q3, ← hrow] at e5
            generalize atM c.max (gt c.inputs (i : Int)) (k : Int) = y at *
            repeat' (first
|(apply G_call;eq_refl;eq_refl;(apply ha);rintro _ _ ⟨rfl, rfl⟩)
|(apply GC_seqK;intro K hK)
|(apply hK;clear hK K)
|(apply GC_block)
|(apply GC_region)
|(apply GL_nil)
|(apply thenG_normal)
|(apply blockG_normal)
|(apply GC_skip)
|(apply GC_if_true;eq_refl)
|(apply GL_on;eq_refl;eq_refl)
|(apply G_pv;eq_refl;first|exact trivial|omega)
|(apply G_ldW;eq_refl;(repeat first|exact In.here|apply In.there|apply In.skip);eq_refl)
|(apply G_rd;eq_refl;(first|(apply Rd.own;(repeat first|exact In.here|apply In.there|apply In.skip);infer_instance)|(apply Rd.old;(repeat first|exact In.here|apply In.there|apply In.skip);assumption)|(apply Rd.oldR;(repeat first|exact In.here|apply In.there|apply In.skip);assumption)|exact Rd.nil|assumption);(case ih => infer_instance);omega;omega;eq_refl)
|(apply G_cmpT;eq_refl;eq_refl;omega)
|(apply G_ix;eq_refl;eq_refl;(first|(apply Rd.own;(repeat first|exact In.here|apply In.there|apply In.skip);infer_instance)|(apply Rd.old;(repeat first|exact In.here|apply In.there|apply In.skip);assumption)|(apply Rd.oldR;(repeat first|exact In.here|apply In.there|apply In.skip);assumption)|exact Rd.nil|assumption);(first|eq_refl|omega);omega;omega)
|(apply G_stV;(first|exact wr_p|kernel_rfl);eq_refl;eq_refl;eq_refl;eq_refl;(repeat first|exact Upd.here|apply Upd.there|apply Upd.skip);infer_instance;infer_instance;eq_refl;omega;(try simp only [List.length_set, List.length_append, List.length_replicate]);omega))
            refine ⟨(i + 1, row.set (i : Int).toNat (gt md (y - 1))), (by repeat first | exact trivial | refine ⟨rfl, ?_⟩), (by repeat first | exact Wk.nil | exact Wk.refl | (apply Wk.cons; (focus ((repeat first | exact Rem.here | apply Rem.there | apply Rem.skip); done))) | apply Wk.nilv | apply Wk.last | apply Wk.drop), ⟨hlt2, e5⟩, by dsimp only; omega⟩
          · obtain rfl : i = c.inputs.length := by omega
            rw [fillL_all (Nat.le_refl _)] at hrow
            obtain rfl : row = trW c md k := hrow
            have hD : Dec encS [.slice (some ⟨b15, 0, none⟩) c.inputs.length c.inputs.length] [((some ⟨b15, 0, none⟩, c.inputs.length), trW c md k)] := by
              have := Dec.one (enc := encS) (((some ⟨b15, 0, none⟩, c.inputs.length), trW c md k) : Hdl × List Bool)
              unfold encS at this
              dsimp only at this
              rwa [hrl] at this
            repeat' (first
|(apply G_app;(first|exact wr_p|kernel_rfl);eq_refl;eq_refl;(intro A c;(repeat first|exact Upd.here|apply Upd.there|apply Upd.skip));infer_instance;(repeat first|exact In.here|apply In.there|apply In.skip);exact hD;eq_refl;eq_refl;eq_refl;(simp only [List.length_cons, List.length_nil];omega);decide;intro A14 k14)
|(apply GC_seqK;intro K hK)
|(apply hK;clear hK K)
|(clear hK K;apply hK;clear hK K)
|(apply GC_region)
|(apply GL_nil)
|(apply thenG_normal)
|(apply thenG_exit)
|(apply blockG_hit)
|(apply blockG_normal)
|(apply GC_exit)
|(apply GC_if_false;eq_refl)
|(apply GL_on;eq_refl;eq_refl)
|(apply G_pv;eq_refl;first|exact trivial|omega)
|(apply G_field;eq_refl)
|(apply G_ld;eq_refl;(repeat first|exact In.here|apply In.there|apply In.skip);eq_refl)
|(apply G_cmpF;eq_refl;eq_refl;omega)
|(apply G_st;(first|exact wr_p|kernel_rfl);eq_refl;eq_refl;eq_refl;eq_refl;(repeat first|exact Upd.here|apply Upd.there|apply Upd.skip);(first|decide|exact Nat.le_of_ble_eq_true rfl))
|(apply G_new (fun b => .slice (some ⟨b, 0, none⟩) 1 1);eq_refl;(intro _;apply buildS31_1 <;> eq_refl);intro _))
            refine ⟨(k + 1, ps ++ [((some ⟨b15, 0, none⟩, c.inputs.length), trW c md k)], A14, k14), (by repeat first | exact trivial | refine ⟨rfl, ?_⟩), ?_, ⟨by dsimp only; omega, ?_⟩, by dsimp only; omega⟩
            · dsimp only
              rw [fam_snoc]
              exact (by repeat first | exact Wk.nil | exact Wk.refl | (apply Wk.cons; (focus ((repeat first | exact Rem.here | apply Rem.there | apply Rem.skip); done))) | apply Wk.nilv | apply Wk.last | apply Wk.drop)
            · dsimp only
              rw [List.map_append, hps, trR_succ]
              rfl
        · obtain rfl : n = (k : Int) := by omega
          repeat' (first
|(apply GC_seqK;intro K hK)
|(apply hK;clear hK K)
|(clear hK K;apply hK;clear hK K)
|(apply GC_region)
|(apply GL_nil)
|(apply thenG_normal)
|(apply thenG_exit)
|(apply blockG_hit)
|(apply GC_ret)
|(apply GC_exit)
|(apply GC_if_false;eq_refl)
|(apply retGC1r;eq_refl;(repeat first|exact In.here|apply In.there|apply In.skip);eq_refl;eq_refl)
|(apply GL_on;eq_refl;eq_refl)
|(apply G_pv;eq_refl;first|exact trivial|omega)
|(apply G_ldW;eq_refl;(repeat first|exact In.here|apply In.there|apply In.skip);eq_refl)
|(apply G_cmpF;eq_refl;eq_refl;omega)
|(apply G_stW;(first|exact wr_p|kernel_rfl);eq_refl;eq_refl;eq_refl;eq_refl;(repeat first|exact Upd.here|apply Upd.there|apply Upd.skip);eq_refl))
          refine ⟨_, ?_, ps, (A, kA), (B, kB), rfl, hps, rfl⟩
          exact (by repeat first | exact Wk.nil | exact Wk.refl | (apply Wk.cons; (focus ((repeat first | exact Rem.here | apply Rem.there | apply Rem.skip); done))) | apply Wk.nilv | apply Wk.last | apply Wk.drop)
    · have e0 := trE_len hz hl
      have e1 : trE c n md ≠ 0 := by rw [e0]; decide
      rw [if_neg e1, if_neg e1, if_neg e1, e0]
      repeat' (first
|(apply G_call;eq_refl;eq_refl;(apply hvr;(repeat first|exact In.here|apply In.there|apply In.skip));rintro _ _ ⟨rfl, rfl⟩)
|(apply GC_seqK;intro K hK)
|(apply hK;clear hK K)
|(apply GC_region)
|(apply GL_nil)
|(apply thenG_normal)
|(apply thenG_ret)
|(apply GC_ret)
|(apply GC_skip)
|(apply GC_if_true;eq_refl)
|(apply GC_if_false;eq_refl)
|(apply retGC1r;eq_refl;(repeat first|exact In.here|apply In.there|apply In.skip);eq_refl;eq_refl)
|(apply GL_on;eq_refl;eq_refl)
|(apply G_pv;eq_refl;first|exact trivial|omega)
|(apply G_ldW;eq_refl;(repeat first|exact In.here|apply In.there|apply In.skip);eq_refl)
|(apply G_cmpT;eq_refl;eq_refl;omega)
|(apply G_cmpF;eq_refl;eq_refl;omega)
|(apply G_len;eq_refl)
|(apply G_alloc;eq_refl;intro _)
|(apply G_box;eq_refl;eq_refl;intro _)
|(apply G_stW;(first|exact wr_p|kernel_rfl);eq_refl;eq_refl;eq_refl;eq_refl;(repeat first|exact Upd.here|apply Upd.there|apply Upd.skip);eq_refl)
|(apply GX_pure;apply build33_))
      exact ⟨_, (by repeat first | exact Wk.nil | exact Wk.refl | (apply Wk.cons; (focus ((repeat first | exact Rem.here | apply Rem.there | apply Rem.skip); done))) | apply Wk.nilv | apply Wk.last | apply Wk.drop), [], (none, 0), (none, 0), rfl, rfl, rfl⟩
  · have e0 := trE_vr (md := md) hz
    have e1 : trE c n md ≠ 0 := by rw [e0]; exact hz
    rw [if_neg e1, if_neg e1, if_neg e1, e0]
    rw [vrM_no hz] at hvr
    generalize vrE c n = ε at *
    repeat' (first
|(apply G_call;eq_refl;eq_refl;(apply hvr;(repeat first|exact In.here|apply In.there|apply In.skip));rintro _ _ ⟨rfl, rfl⟩)
|(apply GC_seqK;intro K hK)
|(apply hK;clear hK K)
|(apply GC_region)
|(apply GL_nil)
|(apply thenG_normal)
|(apply thenG_ret)
|(apply GC_ret)
|(apply GC_if_true;eq_refl)
|(apply retGC1r;eq_refl;(repeat first|exact In.here|apply In.there|apply In.skip);eq_refl;eq_refl)
|(apply GL_on;eq_refl;eq_refl)
|(apply G_pv;eq_refl;first|exact trivial|omega)
|(apply G_ldW;eq_refl;(repeat first|exact In.here|apply In.there|apply In.skip);eq_refl)
|(apply G_cmpT;eq_refl;eq_refl;omega)
|(apply G_alloc;eq_refl;intro _)
|(apply G_box;eq_refl;eq_refl;intro _)
|(apply G_stW;(first|exact wr_p|kernel_rfl);eq_refl;eq_refl;eq_refl;eq_refl;(repeat first|exact Upd.here|apply Upd.there|apply Upd.skip);eq_refl)
|(apply GX_pure;apply build33_))
    exact ⟨_, (by repeat first | exact Wk.nil | exact Wk.refl | (apply Wk.cons; (focus ((repeat first | exact Rem.here | apply Rem.there | apply Rem.skip); done))) | apply Wk.nilv | apply Wk.last | apply Wk.drop), [], (none, 0), (none, 0), rfl, rfl, rfl⟩
end SC
end Go.Proofs.YtbmngkdnebklpaaGreat
end

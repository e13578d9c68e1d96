/- Texts of this seat, one behind the other: S9 S10 S11 S12 S13 L10 S14 S15 S16 S17 S18 S19 S20 S21 S22 S23. -/
import Derived.Test.YtkndegjodnciaaaX4
import Derived.ChangeArms
section
/- What is so in a step. trestleref07: moment. -/
set_option linter.unusedVariables false
set_option linter.unusedSimpArgs false
namespace Go.Proofs.Ytkndegjodnciaaa
namespace SC
open Go.Proofs
structure Mom where
  state : List Bool
  holds : Bool
  bads : List Int
  fair : List (Int × Int)
instance : Inhabited Mom := ⟨⟨[], false, [], []⟩⟩
abbrev HMom := (Option Addr × Nat) × (Option Addr × Nat) × (Option Addr × Nat)
def encM (p : HMom × Mom) : List Value := [.slice p.1.1.1 p.2.state.length p.1.1.2, .bool p.2.holds, .slice p.1.2.1.1 p.2.bads.length p.1.2.1.2, .slice p.1.2.2.1 p.2.fair.length p.1.2.2.2]
def momE (p : HMom × Mom) : Mm := [.vec booc 1 4 p.1.1.1 p.1.1.2 p.2.state, .vec icell 1 3 p.1.2.1.1 p.1.2.1.2 p.2.bads, .vec spotc 2 138 p.1.2.2.1 p.1.2.2.2 p.2.fair]
instance : Enc encM 4 := ⟨fun _ => rfl, fun a u h => by simp [encM] at h; rcases h with rfl | rfl | rfl | rfl <;> rfl, by decide⟩
def selI (v : List Bool) (ls : List Int) (i : Nat) : List Int := ((List.range i).filter fun (k : Nat) => lv v (gt ls (k : Int))).map fun (k : Nat) => (k : Int)
def selF (at_ : Int) (v : List Bool) (ls : List Int) (i : Nat) : List (Int × Int) := ((List.range i).filter fun (k : Nat) => lv v (gt ls (k : Int))).map fun (k : Nat) => (at_, (k : Int))
def fairJ (v : List Bool) (js : List (List Int)) (i : Nat) : List (Int × Int) := (List.range i).flatMap fun (k : Nat) => selF (k : Int) v (js.getD k []) (js.getD k []).length
def momM (c : Circ) (s v : List Bool) : Mom := ⟨s, c.constraints.all (lv v), selI v c.bads c.bads.length, fairJ v c.justice c.justice.length ++ selF (-1) v c.fairness c.fairness.length⟩
theorem selI_t {v : List Bool} {ls : List Int} {i : Nat} (h : lv v (gt ls (i : Int)) = true) : selI v ls (i + 1) = selI v ls i ++ [(i : Int)] := by unfold selI; rw [List.range_succ, List.filter_append, List.map_append]; simp [h]
theorem selI_f {v : List Bool} {ls : List Int} {i : Nat} (h : lv v (gt ls (i : Int)) = false) : selI v ls (i + 1) = selI v ls i := by unfold selI; rw [List.range_succ, List.filter_append, List.map_append]; simp [h]
theorem selF_t {a : Int} {v : List Bool} {ls : List Int} {i : Nat} (h : lv v (gt ls (i : Int)) = true) : selF a v ls (i + 1) = selF a v ls i ++ [(a, (i : Int))] := by unfold selF; rw [List.range_succ, List.filter_append, List.map_append]; simp [h]
theorem selF_f {a : Int} {v : List Bool} {ls : List Int} {i : Nat} (h : lv v (gt ls (i : Int)) = false) : selF a v ls (i + 1) = selF a v ls i := by unfold selF; rw [List.range_succ, List.filter_append, List.map_append]; simp [h]
theorem selI_len (v : List Bool) (ls : List Int) (i : Nat) : (selI v ls i).length ≤ i := by unfold selI; rw [List.length_map]; exact Nat.le_trans (List.length_filter_le ..) (by simp)
theorem selF_len (a : Int) (v : List Bool) (ls : List Int) (i : Nat) : (selF a v ls i).length ≤ i := by unfold selF; rw [List.length_map]; exact Nat.le_trans (List.length_filter_le ..) (by simp)
theorem fairJ_succ (v : List Bool) (js : List (List Int)) (i : Nat) : fairJ v js (i + 1) = fairJ v js i ++ selF (i : Int) v (js.getD i []) (js.getD i []).length := by unfold fairJ; rw [List.range_succ, List.flatMap_append]; simp
theorem sumL_take_le (l : List (List Int)) (i : Nat) : sumL (l.take i) ≤ sumL l := by
  unfold sumL
  induction l generalizing i with
  | nil => simp
  | cons a r ih =>
    cases i with
    | zero => simp
    | succ i => simp only [List.take_succ_cons, List.map_cons, List.sum_cons]; have := ih i; omega
theorem fairJ_len (v : List Bool) (js : List (List Int)) (i : Nat) (h : i ≤ js.length) : (fairJ v js i).length ≤ sumL (js.take i) := by
  induction i with
  | zero => simp [fairJ]
  | succ i ih =>
    have h1 := ih (by omega)
    have h2 := selF_len (i : Int) v (js.getD i []) (js.getD i []).length
    rw [fairJ_succ, List.length_append, List.take_succ_eq_append_getElem (by omega)]
    unfold sumL at *
    rw [List.map_append, List.sum_append]
    have e1 : js.getD i [] = js[i] := by simp [show i < js.length by omega]
    rw [e1] at h2 ⊢
    simp only [List.map_cons, List.map_nil, List.sum_cons, List.sum_nil]
    omega
theorem Right.sumJ {c : Circ} (R : Right c) (hf : c.Fits) : sumL c.justice ≤ 16384 := by
  have h1 := sumL_le (l := c.justice) (M := 17592186044416) fun x hx => by have := hf.each x hx; omega
  have h2 := R.nJust
  have h3 := R.sum
  unfold sumW at h3
  have h4 : c.justice.length * 17592186044416 ≤ 16384 * 17592186044416 := Nat.mul_le_mul_right _ h2
  rw [wrap64_id (by omega) (by omega)] at h3
  omega
theorem each_sum {l : List (List Int)} {i : Nat} (h : i < l.length) : sumL (l.take i) + l[i].length ≤ sumL l := by
  have := sumL_take_le l (i + 1)
  rw [List.take_succ_eq_append_getElem h] at this
  unfold sumL at *
  rw [List.map_append, List.sum_append] at this
  simpa using this
/-- What moment answers: a struct, its three lists new memory. -/
def MomR (m : Mom) (v : Value) (N : Mm) : Prop := ∃ hm : HMom, v = .agg (encM (hm, m)).toArray ∧ N = momE (hm, m)
attribute [local irreducible] WC WL WX WS WO OX Does DoesU Enters CV Pure thenQ blockQ retQ Wants retQC GC GL GS GX RdB thenG blockG retG Rd At gt CVN CVM
set_option maxRecDepth 100000
theorem momentRef_cv {w : World} {c : Circ} {h js : Hd} {S A : Option Addr} {k k2 : Nat} {s v : List Bool} (R : Right c) (H : CirAt w c h js) (hf : c.Fits) (hS : RowA w booc 1 S s) (hk : S = none → k = 0) (hn : s.length ≤ 16384) (hA : RowA w booc 1 A v) (hv : v.length = (c.max + 1).toNat) :
    CVN Try.prog 147 [.agg (ccells c h).toArray, .slice S s.length k, .slice A v.length k2] w (MomR (momM c s v)) := by
  have m1 := R.m1
  have n1 := R.nBad
  have n2 := R.nFair
  have n3 := R.nJust
  have n5 := R.sumJ hf
  have hBad := H.bads
  have hFair := H.fairness
  have hJ := H.jrow
  have hjl := jps_len c js
  have hall : ∀ Γ, In Γ (.old w none_) → ∀ w', Mem w' Γ → CVN Try.prog 119 [.slice A v.length k2, .slice (h 5).1 c.constraints.length (h 5).2] w' _ := fun Γ hi w' M => All_cv (hA.chg (hi.old M)) (H.constraints.chg (hi.old M)) (fun l hl => (R.con hl).has m1 hv) (by have := R.nCon; omega)
  have hlit : ∀ Γ, In Γ (.old w none_) → ∀ l, inR c l → ∀ w', Mem w' Γ → CVN Try.prog 148 [.slice A v.length k2, nu l] w' _ := fun Γ hi l hl w' M => Lit_cv (hA.chg (hi.old M)) (hl.has m1 hv)
  refine CVN.enterC (t := 82) 97 6 [] Try.func147 rfl rfl rfl (.inl rfl) rfl ?_
  repeat' (first
      | (apply G_call; eq_refl; eq_refl; (apply hall; (repeat first | exact In.here | apply In.there | apply In.skip)); rintro _ _ ⟨rfl, rfl⟩)
      | (apply GC_seqK; intro K hK)
      | (apply hK; clear hK K)
      | (apply GC_block)
      | (apply GC_region)
      | (apply GL_nil)
      | (apply thenG_normal)
      | (apply GL_on; eq_refl; eq_refl)
      | (refine GC_draws (id := 1) [.q 1, .q 3, .q 4, .q 5, .f 8, .c 0, .c 2, .c 6, .q 7, .land, .c 9] mixed (by kernel_rfl) (by kernel_rfl) ?_)
      | (apply GS_nil)
      | (apply GS_qon; eq_refl; eq_refl; eq_refl; eq_refl)
      | (apply GS_con; eq_refl; eq_refl; eq_refl; eq_refl)
      | (apply GS_fl; eq_refl; infer_instance; eq_refl; eq_refl; eq_refl)
      | (apply GS_land; simp only [landG]; intros)
      | (apply G_pv; eq_refl; first | exact trivial | omega)
      | (apply G_field; eq_refl)
      | (apply G_ld; eq_refl; (repeat first | exact In.here | apply In.there | apply In.skip); eq_refl)
      | (apply G_alloc; eq_refl; intro _)
      | (apply G_box; eq_refl; eq_refl; intro _)
      | (apply G_stW; (first | exact wr_p | kernel_rfl); eq_refl; eq_refl; eq_refl; eq_refl; (repeat first | exact Upd.here | apply Upd.there | apply Upd.skip); eq_refl)
      | (apply G_appP; eq_refl; eq_refl; (repeat first | exact Rem.here | apply Rem.there); (first | (apply Rd.own; (repeat first | exact In.here | apply In.there | apply In.skip); infer_instance) | (apply Rd.old; (repeat first | exact In.here | apply In.there | apply In.skip); assumption) | (apply Rd.oldR; (repeat first | exact In.here | apply In.there | apply In.skip); assumption) | exact Rd.nil | assumption); infer_instance; assumption; eq_refl; eq_refl; omega; decide; intro _ _)
      | (apply GX_pure; apply build82_0_1 <;> eq_refl)
      | (apply G_newP (fun b => .slice (some ⟨b, 0, none⟩) 0 0); (intro _; apply buildS62_0); intro _))
  rename_i b3 b6 b12 A0 k0 b7
  refine GC_loopK [2, 3, 6, 7] (fun t : Nat × List Int × Option Addr × Nat => [(8, nu t.1)]) (fun t => [.box b7 82 [.slice A0 s.length k0, .bool (c.constraints.all (lv v)), .slice t.2.2.1 t.2.1.length t.2.2.2, .slice none 0 0], .vec icell 1 3 t.2.2.1 t.2.2.2 t.2.1, .vec booc 1 4 A0 k0 s, .box b6 82 [.slice none 0 0, .bool false, .slice none 0 0, .slice none 0 0], .box b3 51 (ccells c h), .old w none_])
    (fun t => t.1 ≤ c.bads.length ∧ t.2.1 = selI v c.bads t.1) (fun t => c.bads.length - t.1) (0, [], none, 0) (by repeat first | exact Pick.nil | (apply Pick.cons; eq_refl)) (by repeat first | exact trivial | refine ⟨rfl, ?_⟩) (by repeat first | exact Wk.nil | exact Wk.refl | (apply Wk.cons; (focus ((repeat first | exact Rem.here | apply Rem.there | apply Rem.skip); done))) | apply Wk.nilv | apply Wk.last | apply Wk.drop) ⟨Nat.zero_le _, rfl⟩ ?_
  rintro ⟨i, B, AB, kB⟩ ⟨hi, hB⟩
  dsimp only at hi hB ⊢
  have hBl : B.length ≤ i := by rw [hB]; exact selI_len ..
  rcases Nat.lt_or_ge i c.bads.length with hlt | hge
  · have hl := R.bad (gt_mem (l := c.bads) (i := (i : Int)) (by omega) (by omega))
    repeat' (first
      | (apply G_call; eq_refl; eq_refl; (apply hlit; (repeat first | exact In.here | apply In.there | apply In.skip); assumption); rintro _ _ ⟨rfl, rfl⟩)
      | (apply GC_seqK; intro K hK)
      | (apply hK; clear hK K)
      | (apply GC_block)
      | (apply GC_region)
      | (apply GL_nil)
      | (apply thenG_normal)
      | (apply blockG_normal)
      | (apply GC_skip)
      | (apply GC_if_true; eq_refl)
      | (apply GC_if; eq_refl; all_goals intro _)
      | (apply GL_on; eq_refl; eq_refl)
      | (apply G_pv; eq_refl; first | exact trivial | omega)
      | (apply G_field; eq_refl)
      | (apply G_ld; eq_refl; (repeat first | exact In.here | apply In.there | apply In.skip); eq_refl)
      | (apply G_rd; eq_refl; (first | (apply Rd.own; (repeat first | exact In.here | apply In.there | apply In.skip); infer_instance) | (apply Rd.old; (repeat first | exact In.here | apply In.there | apply In.skip); assumption) | (apply Rd.oldR; (repeat first | exact In.here | apply In.there | apply In.skip); assumption) | exact Rd.nil | assumption); (case ih => infer_instance); omega; omega; eq_refl)
      | (apply G_cmpT; eq_refl; eq_refl; omega)
      | (apply G_len; eq_refl)
      | (apply G_ix; eq_refl; eq_refl; (first | (apply Rd.own; (repeat first | exact In.here | apply In.there | apply In.skip); infer_instance) | (apply Rd.old; (repeat first | exact In.here | apply In.there | apply In.skip); assumption) | (apply Rd.oldR; (repeat first | exact In.here | apply In.there | apply In.skip); assumption) | exact Rd.nil | assumption); (first | eq_refl | omega); omega; omega)
      | (apply G_st; (first | exact wr_p | kernel_rfl); eq_refl; eq_refl; eq_refl; eq_refl; (repeat first | exact Upd.here | apply Upd.there | apply Upd.skip); (first | decide | exact Nat.le_of_ble_eq_true rfl))
      | (apply G_app; (first | exact wr_p | kernel_rfl); eq_refl; eq_refl; (intro A c; (repeat first | exact Upd.here | apply Upd.there | apply Upd.skip)); infer_instance; (repeat first | exact In.here | apply In.there | apply In.skip); (repeat first | exact Dec.nil | apply Dec.pr | apply Dec.tr | (apply Dec.c1; eq_refl) | (apply Dec.c2; eq_refl) | (apply Dec.c3; eq_refl)); eq_refl; eq_refl; eq_refl; ((try simp only [List.length_append, List.length_cons, List.length_nil]); omega); decide; intro _ _)
      | (apply G_new (fun b => .slice (some ⟨b, 0, none⟩) 1 1); eq_refl; (intro _; apply buildS45_1 <;> eq_refl); intro _))
    · exact ⟨(i + 1, _, _, _), (by repeat first | exact trivial | refine ⟨rfl, ?_⟩), (by repeat first | exact Wk.nil | exact Wk.refl | (apply Wk.cons; (focus ((repeat first | exact Rem.here | apply Rem.there | apply Rem.skip); done))) | apply Wk.nilv | apply Wk.last | apply Wk.drop), ⟨hlt, by rw [selI_t (by assumption), hB]⟩, by simp only; omega⟩
    · exact ⟨(i + 1, _, _, _), (by repeat first | exact trivial | refine ⟨rfl, ?_⟩), (by repeat first | exact Wk.nil | exact Wk.refl | (apply Wk.cons; (focus ((repeat first | exact Rem.here | apply Rem.there | apply Rem.skip); done))) | apply Wk.nilv | apply Wk.last | apply Wk.drop), ⟨hlt, by rw [selI_f (by assumption), hB]⟩, by simp only; omega⟩
  · obtain rfl : i = c.bads.length := by omega
    repeat' (first
      | (apply GC_seqK; intro K hK)
      | (apply hK; clear hK K)
      | (clear hK K; apply hK; clear hK K)
      | (apply GC_block)
      | (apply GC_region)
      | (apply GL_nil)
      | (apply thenG_normal)
      | (apply thenG_exit)
      | (apply blockG_hit)
      | (apply GC_exit)
      | (apply GC_if_false; eq_refl)
      | (apply GL_on; eq_refl; eq_refl)
      | (apply G_pv; eq_refl; first | exact trivial | omega)
      | (apply G_field; eq_refl)
      | (apply G_ld; eq_refl; (repeat first | exact In.here | apply In.there | apply In.skip); eq_refl)
      | (apply G_cmpF; eq_refl; eq_refl; omega)
      | (apply G_len; eq_refl))
    refine GC_loopK [2, 3, 6, 7] (fun t : Nat × List (Int × Int) × Option Addr × Nat => [(9, nu t.1)]) (fun t => [.box b7 82 [.slice A0 s.length k0, .bool (c.constraints.all (lv v)), .slice AB B.length kB, .slice t.2.2.1 t.2.1.length t.2.2.2], .vec spotc 2 138 t.2.2.1 t.2.2.2 t.2.1, .vec icell 1 3 AB kB B, .vec booc 1 4 A0 k0 s, .box b6 82 [.slice none 0 0, .bool false, .slice none 0 0, .slice none 0 0], .box b3 51 (ccells c h), .old w none_])
      (fun t => t.1 ≤ c.justice.length ∧ t.2.1 = fairJ v c.justice t.1) (fun t => c.justice.length - t.1) (0, [], none, 0) (by repeat first | exact Pick.nil | (apply Pick.cons; eq_refl)) (by repeat first | exact trivial | refine ⟨rfl, ?_⟩) (by repeat first | exact Wk.nil | exact Wk.refl | (apply Wk.cons; (focus ((repeat first | exact Rem.here | apply Rem.there | apply Rem.skip); done))) | apply Wk.nilv | apply Wk.last | apply Wk.drop) ⟨Nat.zero_le _, rfl⟩ ?_
    rintro ⟨i, F, AF, kF⟩ ⟨hi2, hF⟩
    dsimp only at hi2 hF ⊢
    have hFl := fairJ_len v c.justice i hi2
    rw [← hF] at hFl
    rcases Nat.lt_or_ge i c.justice.length with hlt | hge
    · have hje := H.jeach (js := js) hlt
      have ej := jps_gt c js hlt
      have el : (gt (jps c js) (i : Int)).2 = c.justice.getD i [] := by rw [ej]; simp [hlt]
      have hes := each_sum hlt
      have el2 : (gt (jps c js) (i : Int)).2.length = c.justice[i].length := by rw [ej]
      have hin : ∀ l ∈ (gt (jps c js) (i : Int)).2, inR c l := fun l hl => R.just (ls := c.justice[i]) (List.getElem_mem hlt) (by rw [ej] at hl; exact hl)
      have hsc := fairJ_succ v c.justice i
      rw [← el, ← hF] at hsc
      repeat' (first
      | (apply GC_seqK; intro K hK)
      | (apply hK; clear hK K)
      | (apply GC_block)
      | (apply GC_region)
      | (apply GL_nil)
      | (apply thenG_normal)
      | (apply GC_skip)
      | (apply GC_if_true; eq_refl)
      | (apply GL_on; eq_refl; eq_refl)
      | (apply G_pv; eq_refl; first | exact trivial | omega)
      | (apply G_field; eq_refl)
      | (apply G_ld; eq_refl; (repeat first | exact In.here | apply In.there | apply In.skip); eq_refl)
      | (apply G_cmpT; eq_refl; eq_refl; omega)
      | (apply G_len; eq_refl))
      refine GC_loopK [2, 3, 6, 7, 9] (fun t : Nat × List (Int × Int) × Option Addr × Nat => [(10, nu t.1)]) (fun t => [.box b7 82 [.slice A0 s.length k0, .bool (c.constraints.all (lv v)), .slice AB B.length kB, .slice t.2.2.1 t.2.1.length t.2.2.2], .vec spotc 2 138 t.2.2.1 t.2.2.2 t.2.1, .vec icell 1 3 AB kB B, .vec booc 1 4 A0 k0 s, .box b6 82 [.slice none 0 0, .bool false, .slice none 0 0, .slice none 0 0], .box b3 51 (ccells c h), .old w none_])
        (fun t => t.1 ≤ (gt (jps c js) (i : Int)).2.length ∧ t.2.1 = F ++ selF i v (gt (jps c js) (i : Int)).2 t.1) (fun t => (gt (jps c js) (i : Int)).2.length - t.1) (0, F, AF, kF) (by repeat first | exact Pick.nil | (apply Pick.cons; eq_refl)) (by repeat first | exact trivial | refine ⟨rfl, ?_⟩) (by repeat first | exact Wk.nil | exact Wk.refl | (apply Wk.cons; (focus ((repeat first | exact Rem.here | apply Rem.there | apply Rem.skip); done))) | apply Wk.nilv | apply Wk.last | apply Wk.drop) ⟨Nat.zero_le _, by simp [selF]⟩ ?_
      rintro ⟨j, F2, AF2, kF2⟩ ⟨hj, hF2⟩
      dsimp only at hj hF2 ⊢
      have hFl2 : F2.length ≤ F.length + j := by rw [hF2, List.length_append]; have := selF_len i v (gt (jps c js) (i : Int)).2 j; omega
      rcases Nat.lt_or_ge j (gt (jps c js) (i : Int)).2.length with hlt2 | hge2
      · have hl := hin _ (gt_mem (l := (gt (jps c js) (i : Int)).2) (i := (j : Int)) (by omega) (by omega))
        repeat' (first
      | (apply G_call; eq_refl; eq_refl; (apply hlit; (repeat first | exact In.here | apply In.there | apply In.skip); assumption); rintro _ _ ⟨rfl, rfl⟩)
      | (apply GC_seqK; intro K hK)
      | (apply hK; clear hK K)
      | (apply GC_block)
      | (apply GC_region)
      | (apply GL_nil)
      | (apply thenG_normal)
      | (apply blockG_normal)
      | (apply GC_skip)
      | (apply GC_if_true; eq_refl)
      | (apply GC_if; eq_refl; all_goals intro _)
      | (apply GL_on; eq_refl; eq_refl)
      | (apply G_pv; eq_refl; first | exact trivial | omega)
      | (apply G_field; eq_refl)
      | (apply G_ld; eq_refl; (repeat first | exact In.here | apply In.there | apply In.skip); eq_refl)
      | (apply G_rd; eq_refl; (first | (apply Rd.own; (repeat first | exact In.here | apply In.there | apply In.skip); infer_instance) | (apply Rd.old; (repeat first | exact In.here | apply In.there | apply In.skip); assumption) | (apply Rd.oldR; (repeat first | exact In.here | apply In.there | apply In.skip); assumption) | exact Rd.nil | assumption); (case ih => infer_instance); omega; omega; eq_refl)
      | (apply G_cmpT; eq_refl; eq_refl; omega)
      | (apply G_len; eq_refl)
      | (apply G_ix; eq_refl; eq_refl; (first | (apply Rd.own; (repeat first | exact In.here | apply In.there | apply In.skip); infer_instance) | (apply Rd.old; (repeat first | exact In.here | apply In.there | apply In.skip); assumption) | (apply Rd.oldR; (repeat first | exact In.here | apply In.there | apply In.skip); assumption) | exact Rd.nil | assumption); (first | eq_refl | omega); omega; omega)
      | (apply G_st; (first | exact wr_p | kernel_rfl); eq_refl; eq_refl; eq_refl; eq_refl; (repeat first | exact Upd.here | apply Upd.there | apply Upd.skip); (first | decide | exact Nat.le_of_ble_eq_true rfl))
      | (apply G_app; (first | exact wr_p | kernel_rfl); eq_refl; eq_refl; (intro A c; (repeat first | exact Upd.here | apply Upd.there | apply Upd.skip)); infer_instance; (repeat first | exact In.here | apply In.there | apply In.skip); (repeat first | exact Dec.nil | apply Dec.pr | apply Dec.tr | (apply Dec.c1; eq_refl) | (apply Dec.c2; eq_refl) | (apply Dec.c3; eq_refl)); eq_refl; eq_refl; eq_refl; ((try simp only [List.length_append, List.length_cons, List.length_nil]); omega); decide; intro _ _)
      | (apply GX_pure; apply build138_0_1 <;> eq_refl)
      | (apply G_new (fun b => .slice (some ⟨b, 0, none⟩) 1 1); eq_refl; (intro _; apply buildS80_1 <;> eq_refl); intro _))
        · exact ⟨(j + 1, _, _, _), (by repeat first | exact trivial | refine ⟨rfl, ?_⟩), (by repeat first | exact Wk.nil | exact Wk.refl | (apply Wk.cons; (focus ((repeat first | exact Rem.here | apply Rem.there | apply Rem.skip); done))) | apply Wk.nilv | apply Wk.last | apply Wk.drop), ⟨hlt2, by rw [selF_t (by assumption), hF2, List.append_assoc]⟩, by simp only; omega⟩
        · exact ⟨(j + 1, _, _, _), (by repeat first | exact trivial | refine ⟨rfl, ?_⟩), (by repeat first | exact Wk.nil | exact Wk.refl | (apply Wk.cons; (focus ((repeat first | exact Rem.here | apply Rem.there | apply Rem.skip); done))) | apply Wk.nilv | apply Wk.last | apply Wk.drop), ⟨hlt2, by rw [selF_f (by assumption), hF2]⟩, by simp only; omega⟩
      · obtain rfl : j = (gt (jps c js) (i : Int)).2.length := by omega
        repeat' (first
      | (apply GC_seqK; intro K hK)
      | (apply hK; clear hK K)
      | (clear hK K; apply hK; clear hK K)
      | (apply GC_region)
      | (apply GL_nil)
      | (apply thenG_normal)
      | (apply thenG_exit)
      | (apply blockG_hit)
      | (apply blockG_normal)
      | (apply GC_exit)
      | (apply GC_if_false; eq_refl)
      | (apply GL_on; eq_refl; eq_refl)
      | (apply G_pv; eq_refl; first | exact trivial | omega)
      | (apply G_field; eq_refl)
      | (apply G_ld; eq_refl; (repeat first | exact In.here | apply In.there | apply In.skip); eq_refl)
      | (apply G_rd; eq_refl; (first | (apply Rd.own; (repeat first | exact In.here | apply In.there | apply In.skip); infer_instance) | (apply Rd.old; (repeat first | exact In.here | apply In.there | apply In.skip); assumption) | (apply Rd.oldR; (repeat first | exact In.here | apply In.there | apply In.skip); assumption) | exact Rd.nil | assumption); (case ih => infer_instance); omega; omega; eq_refl)
      | (apply G_cmpF; eq_refl; eq_refl; omega)
      | (apply G_len; eq_refl)
      | (apply G_ix; eq_refl; eq_refl; (first | (apply Rd.own; (repeat first | exact In.here | apply In.there | apply In.skip); infer_instance) | (apply Rd.old; (repeat first | exact In.here | apply In.there | apply In.skip); assumption) | (apply Rd.oldR; (repeat first | exact In.here | apply In.there | apply In.skip); assumption) | exact Rd.nil | assumption); (first | eq_refl | omega); omega; omega))
        exact ⟨(i + 1, _, _, _), (by repeat first | exact trivial | refine ⟨rfl, ?_⟩), (by repeat first | exact Wk.nil | exact Wk.refl | (apply Wk.cons; (focus ((repeat first | exact Rem.here | apply Rem.there | apply Rem.skip); done))) | apply Wk.nilv | apply Wk.last | apply Wk.drop), ⟨hlt, by rw [hsc, hF2]⟩, by simp only; omega⟩
    · obtain rfl : i = c.justice.length := by omega
      rw [List.take_length] at hFl
      repeat' (first
      | (apply GC_seqK; intro K hK)
      | (apply hK; clear hK K)
      | (clear hK K; apply hK; clear hK K)
      | (apply GC_block)
      | (apply GC_region)
      | (apply GL_nil)
      | (apply thenG_normal)
      | (apply thenG_exit)
      | (apply blockG_hit)
      | (apply GC_exit)
      | (apply GC_if_false; eq_refl)
      | (apply GL_on; eq_refl; eq_refl)
      | (apply G_pv; eq_refl; first | exact trivial | omega)
      | (apply G_field; eq_refl)
      | (apply G_ld; eq_refl; (repeat first | exact In.here | apply In.there | apply In.skip); eq_refl)
      | (apply G_cmpF; eq_refl; eq_refl; omega)
      | (apply G_len; eq_refl))
      refine GC_loopK [2, 3, 6, 7] (fun t : Nat × List (Int × Int) × Option Addr × Nat => [(11, nu t.1)]) (fun t => [.box b7 82 [.slice A0 s.length k0, .bool (c.constraints.all (lv v)), .slice AB B.length kB, .slice t.2.2.1 t.2.1.length t.2.2.2], .vec spotc 2 138 t.2.2.1 t.2.2.2 t.2.1, .vec icell 1 3 AB kB B, .vec booc 1 4 A0 k0 s, .box b6 82 [.slice none 0 0, .bool false, .slice none 0 0, .slice none 0 0], .box b3 51 (ccells c h), .old w none_])
        (fun t => t.1 ≤ c.fairness.length ∧ t.2.1 = F ++ selF (-1) v c.fairness t.1) (fun t => c.fairness.length - t.1) (0, F, AF, kF) (by repeat first | exact Pick.nil | (apply Pick.cons; eq_refl)) (by repeat first | exact trivial | refine ⟨rfl, ?_⟩) (by repeat first | exact Wk.nil | exact Wk.refl | (apply Wk.cons; (focus ((repeat first | exact Rem.here | apply Rem.there | apply Rem.skip); done))) | apply Wk.nilv | apply Wk.last | apply Wk.drop) ⟨Nat.zero_le _, by simp [selF]⟩ ?_
      rintro ⟨j, F2, AF2, kF2⟩ ⟨hj, hF2⟩
      dsimp only at hj hF2 ⊢
      have hFl2 : F2.length ≤ F.length + j := by rw [hF2, List.length_append]; have := selF_len (-1) v c.fairness j; omega
      rcases Nat.lt_or_ge j c.fairness.length with hlt2 | hge2
      · have hl := R.fair (gt_mem (l := c.fairness) (i := (j : Int)) (by omega) (by omega))
        repeat' (first
      | (apply G_call; eq_refl; eq_refl; (apply hlit; (repeat first | exact In.here | apply In.there | apply In.skip); assumption); rintro _ _ ⟨rfl, rfl⟩)
      | (apply GC_seqK; intro K hK)
      | (apply hK; clear hK K)
      | (apply GC_block)
      | (apply GC_region)
      | (apply GL_nil)
      | (apply thenG_normal)
      | (apply blockG_normal)
      | (apply GC_skip)
      | (apply GC_if_true; eq_refl)
      | (apply GC_if; eq_refl; all_goals intro _)
      | (apply GL_on; eq_refl; eq_refl)
      | (apply G_pv; eq_refl; first | exact trivial | omega)
      | (apply G_field; eq_refl)
      | (apply G_ld; eq_refl; (repeat first | exact In.here | apply In.there | apply In.skip); eq_refl)
      | (apply G_rd; eq_refl; (first | (apply Rd.own; (repeat first | exact In.here | apply In.there | apply In.skip); infer_instance) | (apply Rd.old; (repeat first | exact In.here | apply In.there | apply In.skip); assumption) | (apply Rd.oldR; (repeat first | exact In.here | apply In.there | apply In.skip); assumption) | exact Rd.nil | assumption); (case ih => infer_instance); omega; omega; eq_refl)
      | (apply G_cmpT; eq_refl; eq_refl; omega)
      | (apply G_len; eq_refl)
      | (apply G_ix; eq_refl; eq_refl; (first | (apply Rd.own; (repeat first | exact In.here | apply In.there | apply In.skip); infer_instance) | (apply Rd.old; (repeat first | exact In.here | apply In.there | apply In.skip); assumption) | (apply Rd.oldR; (repeat first | exact In.here | apply In.there | apply In.skip); assumption) | exact Rd.nil | assumption); (first | eq_refl | omega); omega; omega)
      | (apply G_st; (first | exact wr_p | kernel_rfl); eq_refl; eq_refl; eq_refl; eq_refl; (repeat first | exact Upd.here | apply Upd.there | apply Upd.skip); (first | decide | exact Nat.le_of_ble_eq_true rfl))
      | (apply G_app; (first | exact wr_p | kernel_rfl); eq_refl; eq_refl; (intro A c; (repeat first | exact Upd.here | apply Upd.there | apply Upd.skip)); infer_instance; (repeat first | exact In.here | apply In.there | apply In.skip); (repeat first | exact Dec.nil | apply Dec.pr | apply Dec.tr | (apply Dec.c1; eq_refl) | (apply Dec.c2; eq_refl) | (apply Dec.c3; eq_refl)); eq_refl; eq_refl; eq_refl; ((try simp only [List.length_append, List.length_cons, List.length_nil]); omega); decide; intro _ _)
      | (apply GX_pure; apply build138_0_1 <;> eq_refl)
      | (apply G_new (fun b => .slice (some ⟨b, 0, none⟩) 1 1); eq_refl; (intro _; apply buildS80_1 <;> eq_refl); intro _))
        · exact ⟨(j + 1, _, _, _), (by repeat first | exact trivial | refine ⟨rfl, ?_⟩), (by repeat first | exact Wk.nil | exact Wk.refl | (apply Wk.cons; (focus ((repeat first | exact Rem.here | apply Rem.there | apply Rem.skip); done))) | apply Wk.nilv | apply Wk.last | apply Wk.drop), ⟨hlt2, by rw [selF_t (by assumption), hF2, List.append_assoc]⟩, by simp only; omega⟩
        · exact ⟨(j + 1, _, _, _), (by repeat first | exact trivial | refine ⟨rfl, ?_⟩), (by repeat first | exact Wk.nil | exact Wk.refl | (apply Wk.cons; (focus ((repeat first | exact Rem.here | apply Rem.there | apply Rem.skip); done))) | apply Wk.nilv | apply Wk.last | apply Wk.drop), ⟨hlt2, by rw [selF_f (by assumption), hF2]⟩, by simp only; omega⟩
      · obtain rfl : j = c.fairness.length := by omega
        repeat' (first
      | (apply GC_seqK; intro K hK)
      | (apply hK; clear hK K)
      | (clear hK K; apply hK; clear hK K)
      | (apply GC_region)
      | (apply GL_nil)
      | (apply thenG_normal)
      | (apply thenG_exit)
      | (apply blockG_hit)
      | (apply GC_ret)
      | (apply GC_exit)
      | (apply GC_if_false; eq_refl)
      | (apply retGC0; eq_refl; (repeat first | exact In.here | apply In.there | apply In.skip); eq_refl)
      | (apply GL_on; eq_refl; eq_refl)
      | (apply G_pv; eq_refl; first | exact trivial | omega)
      | (apply G_field; eq_refl)
      | (apply G_ld; eq_refl; (repeat first | exact In.here | apply In.there | apply In.skip); eq_refl)
      | (apply G_ldW; eq_refl; (repeat first | exact In.here | apply In.there | apply In.skip); eq_refl)
      | (apply G_cmpF; eq_refl; eq_refl; omega)
      | (apply G_len; eq_refl)
      | (apply G_stW; (first | exact wr_p | kernel_rfl); eq_refl; eq_refl; eq_refl; eq_refl; (repeat first | exact Upd.here | apply Upd.there | apply Upd.skip); eq_refl))
        subst hF2 hF hB
        exact ⟨_, (by repeat first | exact Wk.nil | exact Wk.refl | (apply Wk.cons; (focus ((repeat first | exact Rem.here | apply Rem.there | apply Rem.skip); done))) | apply Wk.nilv | apply Wk.last | apply Wk.drop), ((A0, k0), (AB, kB), (AF2, kF2)), rfl, rfl⟩
end SC
end Go.Proofs.Ytkndegjodnciaaa
end
section
/- sim: moment. -/
set_option linter.unusedVariables false
set_option linter.unusedSimpArgs false
namespace Go.Proofs.Ytkndegjodnciaaa
namespace SC
open Go.Proofs
attribute [local irreducible] WC WL WX WS WO OX Does DoesU Enters CV Pure thenQ blockQ retQ Wants retQC GC GL GS GX RdB thenG blockG retG Rd At gt CVN CVM
set_option maxRecDepth 100000
/-- The closure that tells the fair spots. -/
def fairC (b : Nat) (x0 x1 x2 : Value) (A : Option Addr) (k : Nat) (F : List (Int × Int)) : Mm := [.box b 82 [x0, x1, x2, .slice A F.length k], .vec spotc 2 138 A k F]
theorem fair_cv {w : World} {b5 b7 k c kF kL : Nat} {x0 x1 x2 : Value} {A AF L : Option Addr} {v : List Bool} {F : List (Int × Int)} {ls : List Int} {at_ : Int} (M : Mem w (fairC b7 x0 x1 x2 AF kF F)) (hB : RdB [.old w (owns (fairC b7 x0 x1 x2 AF kF F))] b5 62 [.slice A k c]) (hA : Rd [.old w (owns (fairC b7 x0 x1 x2 AF kF F))] booc 1 A v) (hL : Rd [.old w (owns (fairC b7 x0 x1 x2 AF kF F))] icell 1 L ls)
    (hk : k = v.length) (hin : ∀ l ∈ ls, hasL v l) (hn : F.length + ls.length ≤ 100000) : CVM Try.prog 146 ([nu at_, .slice L ls.length kL] ++ (#[pt b5, pt b7] : Array Value).toList) w (fairC b7 x0 x1 x2 AF kF F) fun r N => r = .tuple #[] ∧ ∃ A' k', N = fairC b7 x0 x1 x2 A' k' (F ++ selF at_ v ls ls.length) := by
  obtain ⟨S, hS⟩ : ∃ S, S = owns (fairC b7 x0 x1 x2 AF kF F) := ⟨_, rfl⟩
  rw [← hS] at hB hA hL
  have his : ∀ Γ, In Γ (.old w S) → ∀ l, hasL v l → ∀ w', Mem w' Γ → CVN Try.prog 145 [.slice A k c, nu l] w' _ := fun Γ hi l hl w' M => is_cv (hA.at (hi.one M)) hk hl
  refine CVM.enter 27 [] Try.func146 rfl rfl rfl (by decide) rfl M ?_
  rw [← hS]
  clear hS M
  unfold fairC
  repeat' (first
      | (apply GC_seqK; intro K hK)
      | (apply hK; clear hK K)
      | (apply GC_block)
      | (apply GC_region)
      | (apply GL_nil)
      | (apply thenG_normal)
      | (apply GL_on; eq_refl; eq_refl)
      | (apply G_pv; eq_refl; first | exact trivial | omega)
      | (apply G_len; eq_refl))
  refine GC_loopK [0, 2, 3, 8, 9] (fun t : Nat × List (Int × Int) × Option Addr × Nat => [(10, nu t.1)]) (fun t => [.box b7 82 [x0, x1, x2, .slice t.2.2.1 t.2.1.length t.2.2.2], .vec spotc 2 138 t.2.2.1 t.2.2.2 t.2.1, .old w S])
    (fun t => t.1 ≤ ls.length ∧ t.2.1 = F ++ selF at_ v ls t.1) (fun t => ls.length - t.1) (0, F, AF, kF) (by repeat first | exact Pick.nil | (apply Pick.cons; eq_refl)) (by repeat first | exact trivial | refine ⟨rfl, ?_⟩) (by repeat first | exact Wk.nil | exact Wk.refl | (apply Wk.cons; (focus ((repeat first | exact Rem.here | apply Rem.there | apply Rem.skip); done))) | apply Wk.nilv | apply Wk.last | apply Wk.drop) ⟨Nat.zero_le _, by simp [selF]⟩ ?_
  rintro ⟨j, F2, AF2, kF2⟩ ⟨hj, hF2⟩
  dsimp only at hj hF2 ⊢
  have hFl2 : F2.length ≤ F.length + j := by rw [hF2, List.length_append]; have := selF_len at_ v ls j; omega
  rcases Nat.lt_or_ge j ls.length with hlt2 | hge2
  · have hl := hin _ (gt_mem (l := ls) (i := (j : Int)) (by omega) (by omega))
    repeat' (first
      | (apply G_call; eq_refl; eq_refl; (apply his; (repeat first | exact In.here | apply In.there | apply In.skip); assumption); rintro _ _ ⟨rfl, rfl⟩)
      | (apply GC_seqK; intro K hK)
      | (apply hK; clear hK K)
      | (apply GC_block)
      | (apply GC_region)
      | (apply GL_nil)
      | (apply thenG_normal)
      | (apply blockG_normal)
      | (apply GC_skip)
      | (apply GC_if_true; eq_refl)
      | (apply GC_if; eq_refl; all_goals intro _)
      | (apply GL_on; eq_refl; eq_refl)
      | (apply G_pv; eq_refl; first | exact trivial | omega)
      | (apply G_field; eq_refl)
      | (apply G_ld; eq_refl; (repeat first | exact In.here | apply In.there | apply In.skip); eq_refl)
      | (apply G_ldR; eq_refl; (apply RdB.oldR; (repeat first | exact In.here | apply In.there | apply In.skip); assumption); eq_refl)
      | (apply G_rd; eq_refl; (first | (apply Rd.own; (repeat first | exact In.here | apply In.there | apply In.skip); infer_instance) | (apply Rd.old; (repeat first | exact In.here | apply In.there | apply In.skip); assumption) | (apply Rd.oldR; (repeat first | exact In.here | apply In.there | apply In.skip); assumption) | exact Rd.nil | assumption); (case ih => infer_instance); omega; omega; eq_refl)
      | (apply G_cmpT; eq_refl; eq_refl; omega)
      | (apply G_ix; eq_refl; eq_refl; (first | (apply Rd.own; (repeat first | exact In.here | apply In.there | apply In.skip); infer_instance) | (apply Rd.old; (repeat first | exact In.here | apply In.there | apply In.skip); assumption) | (apply Rd.oldR; (repeat first | exact In.here | apply In.there | apply In.skip); assumption) | exact Rd.nil | assumption); (first | eq_refl | omega); omega; omega)
      | (apply G_st; (first | exact wr_p | kernel_rfl); eq_refl; eq_refl; eq_refl; eq_refl; (repeat first | exact Upd.here | apply Upd.there | apply Upd.skip); (first | decide | exact Nat.le_of_ble_eq_true rfl))
      | (apply G_app; (first | exact wr_p | kernel_rfl); eq_refl; eq_refl; (intro A c; (repeat first | exact Upd.here | apply Upd.there | apply Upd.skip)); infer_instance; (repeat first | exact In.here | apply In.there | apply In.skip); (repeat first | exact Dec.nil | apply Dec.pr | apply Dec.tr | (apply Dec.c1; eq_refl) | (apply Dec.c2; eq_refl) | (apply Dec.c3; eq_refl)); eq_refl; eq_refl; eq_refl; ((try simp only [List.length_append, List.length_cons, List.length_nil]); omega); decide; intro _ _)
      | (apply GX_pure; apply build138_0_1 <;> eq_refl)
      | (apply G_new (fun b => .slice (some ⟨b, 0, none⟩) 1 1); eq_refl; (intro _; apply buildS80_1 <;> eq_refl); intro _))
    · exact ⟨(j + 1, _, _, _), (by repeat first | exact trivial | refine ⟨rfl, ?_⟩), (by repeat first | exact Wk.nil | exact Wk.refl | (apply Wk.cons; (focus ((repeat first | exact Rem.here | apply Rem.there | apply Rem.skip); done))) | apply Wk.nilv | apply Wk.last | apply Wk.drop), ⟨hlt2, by rw [selF_t (by assumption), hF2, List.append_assoc]⟩, by simp only; omega⟩
    · exact ⟨(j + 1, _, _, _), (by repeat first | exact trivial | refine ⟨rfl, ?_⟩), (by repeat first | exact Wk.nil | exact Wk.refl | (apply Wk.cons; (focus ((repeat first | exact Rem.here | apply Rem.there | apply Rem.skip); done))) | apply Wk.nilv | apply Wk.last | apply Wk.drop), ⟨hlt2, by rw [selF_f (by assumption), hF2]⟩, by simp only; omega⟩
  · obtain rfl : j = ls.length := by omega
    repeat' (first
      | (apply GC_seqK; intro K hK)
      | (apply hK; clear hK K)
      | (apply GC_region)
      | (apply GL_nil)
      | (apply thenG_normal)
      | (apply thenG_exit)
      | (apply blockG_hit)
      | (apply GC_exit)
      | (apply GC_if_false; eq_refl)
      | (apply retG0n)
      | (apply GL_on; eq_refl; eq_refl)
      | (apply G_cmpF; eq_refl; eq_refl; omega))
    subst hF2
    exact ⟨_, (by repeat first | exact Wk.nil | exact Wk.refl | (apply Wk.cons; (focus ((repeat first | exact Rem.here | apply Rem.there | apply Rem.skip); done))) | apply Wk.nilv | apply Wk.last | apply Wk.drop), rfl, AF2, kF2, rfl⟩
theorem clone144_cv {w : World} {A : Option Addr} {k : Nat} {l : List Bool} (hA : RowA w booc 1 A l) (hn : l.length ≤ 140737488355000) : CVN Try.prog 144 [.slice A l.length k] w fun v N => ∃ A' k', v = .slice A' l.length k' ∧ N = [.vec booc 1 4 A' k' l] := by
  refine CVN.enter 8 [2] Try.func144 rfl rfl rfl (by decide) rfl ?_
  cases A with
  | none =>
    obtain rfl : l = [] := List.length_eq_zero_iff.1 hA.nil_of
    repeat' (first
      | (apply GC_seqK; intro K hK)
      | (apply hK; clear hK K)
      | (apply GC_region)
      | (apply GL_nil)
      | (apply thenG_normal)
      | (apply thenG_ret)
      | (apply GC_ret)
      | (apply GC_if_true; eq_refl)
      | (apply retG1; eq_refl)
      | (apply GL_on; eq_refl; eq_refl)
      | (apply G_pv; eq_refl; first | exact trivial | omega)
      | (apply G_eqL; eq_refl; eq_refl))
    exact ⟨[.vec booc 1 4 none 0 []], (by repeat first | exact Wk.nil | exact Wk.refl | (apply Wk.cons; (focus ((repeat first | exact Rem.here | apply Rem.there | apply Rem.skip); done))) | apply Wk.nilv | apply Wk.last | apply Wk.drop), none, 0, rfl, rfl⟩
  | some p =>
    have hk : some p = none → k = 0 := fun h => by cases h
    repeat' (first
      | (apply GC_seqK; intro K hK)
      | (apply hK; clear hK K)
      | (apply GC_region)
      | (apply GL_nil)
      | (apply thenG_normal)
      | (apply GC_ret)
      | (apply GC_skip)
      | (apply GC_if_false; eq_refl)
      | (apply retG1; eq_refl)
      | (apply GL_on; eq_refl; eq_refl)
      | (apply G_pv; eq_refl; first | exact trivial | omega)
      | (apply G_eqL; eq_refl; eq_refl)
      | (apply G_appBR; (first | exact wr_p | kernel_rfl); eq_refl; eq_refl; (first | (apply Rd.own; (repeat first | exact In.here | apply In.there | apply In.skip); infer_instance) | (apply Rd.old; (repeat first | exact In.here | apply In.there | apply In.skip); assumption) | (apply Rd.oldR; (repeat first | exact In.here | apply In.there | apply In.skip); assumption) | exact Rd.nil | assumption); infer_instance; (repeat first | exact Upd.here | apply Upd.there | apply Upd.skip); (repeat first | exact Dec.nil | apply Dec.pr | apply Dec.tr | (apply Dec.c1; eq_refl) | (apply Dec.c2; eq_refl) | (apply Dec.c3; eq_refl)); (intro A c; (repeat first | exact Upd.here | apply Upd.there | apply Upd.skip)); (intro _; trivial); (first | (apply Rd.own; (repeat first | exact In.here | apply In.there | apply In.skip); infer_instance) | (apply Rd.old; (repeat first | exact In.here | apply In.there | apply In.skip); assumption) | (apply Rd.oldR; (repeat first | exact In.here | apply In.there | apply In.skip); assumption) | exact Rd.nil | assumption); assumption; eq_refl; eq_refl; decide; eq_refl; eq_refl; (try simp only [List.length_nil]); omega; decide; intro _ _)
      | (apply G_new (fun b => .slice (some ⟨b, 0, none⟩) 0 0); eq_refl; (intro _; apply buildS62_0); intro _))
    exact ⟨[_], (by repeat first | exact Wk.nil | exact Wk.refl | (apply Wk.cons; (focus ((repeat first | exact Rem.here | apply Rem.there | apply Rem.skip); done))) | apply Wk.nilv | apply Wk.last | apply Wk.drop), _, _, rfl, rfl⟩
theorem moment_cv {w : World} {c : Circ} {h js : Hd} {p : Nat} {B S A : Option Addr} {k k1 k2 : Nat} {s v : List Bool} (R : Right c) (hP : Blk w p 163 (rcells c h B k1)) (H : CirAt w c h js) (hf : c.Fits) (hS : RowA w booc 1 S s) (hn : s.length ≤ 16384) (hA : RowA w booc 1 A v) (hv : v.length = (c.max + 1).toNat) :
    CVN Try.prog 109 [pt p, .slice S s.length k, .slice A v.length k2] w (MomR (momM c s v)) := by
  have m1 := R.m1
  have n1 := R.nBad
  have n2 := R.nFair
  have n3 := R.nJust
  have n5 := R.sumJ hf
  have hBad := H.bads
  have hFair := H.fairness
  have hJ := H.jrow
  have hjl := jps_len c js
  have hall : ∀ Γ, In Γ (.old w none_) → ∀ w', Mem w' Γ → CVN Try.prog 118 [pt p, .slice A v.length k2] w' _ := fun Γ hi w' M => holds_cv (hP.chg (hi.old M) id) (H.chg (hi.old M)) (hA.chg (hi.old M)) R.nCon fun l hl => (R.con hl).has m1 hv
  have hcl : ∀ Γ, In Γ (.old w none_) → ∀ w', Mem w' Γ → CVN Try.prog 144 [.slice S s.length k] w' _ := fun Γ hi w' M => clone144_cv (hS.chg (hi.old M)) (by omega)
  have hlit : ∀ Γ, In Γ (.old w none_) → ∀ l, inR c l → ∀ w', Mem w' Γ → CVN Try.prog 145 [.slice A v.length k2, nu l] w' _ := fun Γ hi l hl w' M => is_cv (hA.chg (hi.old M)) rfl (hl.has m1 hv)
  have hfr : ∀ {Γ Γ' : Mm} {b5 b7 kF kL : Nat} {x0 x1 x2 : Value} {AF L : Option Addr} {F : List (Int × Int)} {ls : List Int} {at_ : Int}, Rems Γ (fairC b7 x0 x1 x2 AF kF F) Γ' → In Γ' (.box b5 62 [.slice A v.length k2]) → In Γ' (.old w none_) → RowA w icell 1 L ls → (∀ l ∈ ls, inR c l) → F.length + ls.length ≤ 100000 → ∀ w', Mem w' Γ →
      CVM Try.prog 146 ([nu at_, .slice L ls.length kL] ++ (#[pt b5, pt b7] : Array Value).toList) w' (fairC b7 x0 x1 x2 AF kF F) _ := fun hC hb ho hL hin hl w' M => fair_cv (M.takes hC).left ((RdB.own hb).frame (M.takes hC)) ((Rd.old ho hA).frame (M.takes hC)) ((Rd.old ho hL).frame (M.takes hC)) rfl (fun l hl => (hin l hl).has m1 hv) hl
  refine CVN.enterC (t := 82) 65 6 [] Try.func109 rfl rfl rfl (.inl rfl) rfl ?_
  repeat' (first
      | (apply G_call; eq_refl; eq_refl; (apply hcl; (repeat first | exact In.here | apply In.there | apply In.skip)); rintro _ _ ⟨A0, k0, rfl, rfl⟩)
      | (apply G_call; eq_refl; eq_refl; (apply hall; (repeat first | exact In.here | apply In.there | apply In.skip)); rintro _ _ ⟨rfl, rfl⟩)
      | (apply GC_seqK; intro K hK)
      | (apply hK; clear hK K)
      | (apply GC_block)
      | (apply GC_region)
      | (apply GL_nil)
      | (apply thenG_normal)
      | (apply GL_on; eq_refl; eq_refl)
      | (refine GC_draws (id := 1) [.q 0, .q 2, .q 3, .f 6, .c 1, .c 4, .q 5, .land, .c 7] mixed (by kernel_rfl) (by kernel_rfl) ?_)
      | (apply GS_nil)
      | (apply GS_qon; eq_refl; eq_refl; eq_refl; eq_refl)
      | (apply GS_con; eq_refl; eq_refl; eq_refl; eq_refl)
      | (apply GS_fl; eq_refl; infer_instance; eq_refl; eq_refl; eq_refl)
      | (apply GS_land; simp only [landG]; intros)
      | (apply G_pv; eq_refl; first | exact trivial | omega)
      | (apply G_field; eq_refl)
      | (apply G_ld; eq_refl; (repeat first | exact In.here | apply In.there | apply In.skip); eq_refl)
      | (apply G_ldO; eq_refl; (repeat first | exact In.here | apply In.there | apply In.skip); assumption; eq_refl)
      | (apply G_len; eq_refl)
      | (apply G_alloc; eq_refl; intro _)
      | (apply G_box; eq_refl; eq_refl; intro _)
      | (apply G_stW; (first | exact wr_p | kernel_rfl); eq_refl; eq_refl; eq_refl; eq_refl; (repeat first | exact Upd.here | apply Upd.there | apply Upd.skip); eq_refl)
      | (apply GX_pure; apply build82_0_1 <;> eq_refl))
  rename_i b5 b6 b7
  refine GC_loopK [0, 5, 6, 7, 23, 24] (fun t : Nat × List Int × Option Addr × Nat => [(25, nu t.1)]) (fun t => [.box b7 82 [.slice A0 s.length k0, .bool (c.constraints.all (lv v)), .slice t.2.2.1 t.2.1.length t.2.2.2, .slice none 0 0], .vec icell 1 3 t.2.2.1 t.2.2.2 t.2.1, .vec booc 1 4 A0 k0 s, .box b6 82 [.slice none 0 0, .bool false, .slice none 0 0, .slice none 0 0], .box b5 62 [.slice A v.length k2], .old w none_])
    (fun t => t.1 ≤ c.bads.length ∧ t.2.1 = selI v c.bads t.1) (fun t => c.bads.length - t.1) (0, [], none, 0) (by repeat first | exact Pick.nil | (apply Pick.cons; eq_refl)) (by repeat first | exact trivial | refine ⟨rfl, ?_⟩) (by repeat first | exact Wk.nil | exact Wk.refl | (apply Wk.cons; (focus ((repeat first | exact Rem.here | apply Rem.there | apply Rem.skip); done))) | apply Wk.nilv | apply Wk.last | apply Wk.drop) ⟨Nat.zero_le _, rfl⟩ ?_
  rintro ⟨i, B, AB, kB⟩ ⟨hi, hB⟩
  dsimp only at hi hB ⊢
  have hBl : B.length ≤ i := by rw [hB]; exact selI_len ..
  rcases Nat.lt_or_ge i c.bads.length with hlt | hge
  · have hl := R.bad (gt_mem (l := c.bads) (i := (i : Int)) (by omega) (by omega))
    repeat' (first
      | (apply G_call; eq_refl; eq_refl; (apply hlit; (repeat first | exact In.here | apply In.there | apply In.skip); assumption); rintro _ _ ⟨rfl, rfl⟩)
      | (apply GC_seqK; intro K hK)
      | (apply hK; clear hK K)
      | (apply GC_block)
      | (apply GC_region)
      | (apply GL_nil)
      | (apply thenG_normal)
      | (apply blockG_normal)
      | (apply GC_skip)
      | (apply GC_if_true; eq_refl)
      | (apply GC_if; eq_refl; all_goals intro _)
      | (apply GL_on; eq_refl; eq_refl)
      | (apply G_pv; eq_refl; first | exact trivial | omega)
      | (apply G_field; eq_refl)
      | (apply G_ld; eq_refl; (repeat first | exact In.here | apply In.there | apply In.skip); eq_refl)
      | (apply G_rd; eq_refl; (first | (apply Rd.own; (repeat first | exact In.here | apply In.there | apply In.skip); infer_instance) | (apply Rd.old; (repeat first | exact In.here | apply In.there | apply In.skip); assumption) | (apply Rd.oldR; (repeat first | exact In.here | apply In.there | apply In.skip); assumption) | exact Rd.nil | assumption); (case ih => infer_instance); omega; omega; eq_refl)
      | (apply G_cmpT; eq_refl; eq_refl; omega)
      | (apply G_ix; eq_refl; eq_refl; (first | (apply Rd.own; (repeat first | exact In.here | apply In.there | apply In.skip); infer_instance) | (apply Rd.old; (repeat first | exact In.here | apply In.there | apply In.skip); assumption) | (apply Rd.oldR; (repeat first | exact In.here | apply In.there | apply In.skip); assumption) | exact Rd.nil | assumption); (first | eq_refl | omega); omega; omega)
      | (apply G_st; (first | exact wr_p | kernel_rfl); eq_refl; eq_refl; eq_refl; eq_refl; (repeat first | exact Upd.here | apply Upd.there | apply Upd.skip); (first | decide | exact Nat.le_of_ble_eq_true rfl))
      | (apply G_app; (first | exact wr_p | kernel_rfl); eq_refl; eq_refl; (intro A c; (repeat first | exact Upd.here | apply Upd.there | apply Upd.skip)); infer_instance; (repeat first | exact In.here | apply In.there | apply In.skip); (repeat first | exact Dec.nil | apply Dec.pr | apply Dec.tr | (apply Dec.c1; eq_refl) | (apply Dec.c2; eq_refl) | (apply Dec.c3; eq_refl)); eq_refl; eq_refl; eq_refl; ((try simp only [List.length_append, List.length_cons, List.length_nil]); omega); decide; intro _ _)
      | (apply G_new (fun b => .slice (some ⟨b, 0, none⟩) 1 1); eq_refl; (intro _; apply buildS45_1 <;> eq_refl); intro _))
    · exact ⟨(i + 1, _, _, _), (by repeat first | exact trivial | refine ⟨rfl, ?_⟩), (by repeat first | exact Wk.nil | exact Wk.refl | (apply Wk.cons; (focus ((repeat first | exact Rem.here | apply Rem.there | apply Rem.skip); done))) | apply Wk.nilv | apply Wk.last | apply Wk.drop), ⟨hlt, by rw [selI_t (by assumption), hB]⟩, by simp only; omega⟩
    · exact ⟨(i + 1, _, _, _), (by repeat first | exact trivial | refine ⟨rfl, ?_⟩), (by repeat first | exact Wk.nil | exact Wk.refl | (apply Wk.cons; (focus ((repeat first | exact Rem.here | apply Rem.there | apply Rem.skip); done))) | apply Wk.nilv | apply Wk.last | apply Wk.drop), ⟨hlt, by rw [selI_f (by assumption), hB]⟩, by simp only; omega⟩
  · obtain rfl : i = c.bads.length := by omega
    repeat' (first
      | (apply GC_seqK; intro K hK)
      | (apply hK; clear hK K)
      | (clear hK K; apply hK; clear hK K)
      | (apply GC_block)
      | (apply GC_region)
      | (apply GL_nil)
      | (apply thenG_normal)
      | (apply thenG_exit)
      | (apply blockG_hit)
      | (apply GC_exit)
      | (apply GC_if_false; eq_refl)
      | (apply GL_on; eq_refl; eq_refl)
      | (apply G_pv; eq_refl; first | exact trivial | omega)
      | (apply G_field; eq_refl)
      | (apply G_ldO; eq_refl; (repeat first | exact In.here | apply In.there | apply In.skip); assumption; eq_refl)
      | (apply G_cmpF; eq_refl; eq_refl; omega)
      | (apply G_len; eq_refl)
      | (apply G_fun; eq_refl))
    refine GC_loopK [0, 5, 6, 7, 10, 45, 46] (fun t : Nat × List (Int × Int) × Option Addr × Nat => [(47, nu t.1)]) (fun t => [.box b7 82 [.slice A0 s.length k0, .bool (c.constraints.all (lv v)), .slice AB B.length kB, .slice t.2.2.1 t.2.1.length t.2.2.2], .vec spotc 2 138 t.2.2.1 t.2.2.2 t.2.1, .vec icell 1 3 AB kB B, .vec booc 1 4 A0 k0 s, .box b6 82 [.slice none 0 0, .bool false, .slice none 0 0, .slice none 0 0], .box b5 62 [.slice A v.length k2], .old w none_])
      (fun t => t.1 ≤ c.justice.length ∧ t.2.1 = fairJ v c.justice t.1) (fun t => c.justice.length - t.1) (0, [], none, 0) (by repeat first | exact Pick.nil | (apply Pick.cons; eq_refl)) (by repeat first | exact trivial | refine ⟨rfl, ?_⟩) (by repeat first | exact Wk.nil | exact Wk.refl | (apply Wk.cons; (focus ((repeat first | exact Rem.here | apply Rem.there | apply Rem.skip); done))) | apply Wk.nilv | apply Wk.last | apply Wk.drop) ⟨Nat.zero_le _, rfl⟩ ?_
    rintro ⟨i, F, AF, kF⟩ ⟨hi2, hF⟩
    dsimp only at hi2 hF ⊢
    have hFl := fairJ_len v c.justice i hi2
    rw [← hF] at hFl
    rcases Nat.lt_or_ge i c.justice.length with hlt | hge
    · have hje := H.jeach (js := js) hlt
      have ej := jps_gt c js hlt
      have el : (gt (jps c js) (i : Int)).2 = c.justice.getD i [] := by rw [ej]; simp [hlt]
      have hes := each_sum hlt
      have el2 : (gt (jps c js) (i : Int)).2.length = c.justice[i].length := by rw [ej]
      have hin : ∀ l ∈ (gt (jps c js) (i : Int)).2, inR c l := fun l hl => R.just (ls := c.justice[i]) (List.getElem_mem hlt) (by rw [ej] at hl; exact hl)
      have hsc := fairJ_succ v c.justice i
      rw [← el, ← hF] at hsc
      repeat' (first
      | (apply G_callC (C := fairC b7 _ _ _ AF kF F); exact wr_p; eq_refl; infer_instance; eq_refl; (repeat first | exact Rems.nil | (apply Rems.cons; (focus ((repeat first | exact Rem.here | apply Rem.there | apply Rem.skip); done)))); (apply hfr; (repeat first | exact Rems.nil | (apply Rems.cons; (focus ((repeat first | exact Rem.here | apply Rem.there | apply Rem.skip); done)))); (repeat first | exact In.here | apply In.there | apply In.skip); (repeat first | exact In.here | apply In.there | apply In.skip); exact hje; exact hin; omega); rintro _ _ ⟨rfl, A9, k9, rfl⟩)
      | (apply GC_seqK; intro K hK)
      | (apply hK; clear hK K)
      | (apply GC_block)
      | (apply GC_region)
      | (apply GL_nil)
      | (apply thenG_normal)
      | (apply blockG_normal)
      | (apply GC_skip)
      | (apply GC_if_true; eq_refl)
      | (apply GL_on; eq_refl; eq_refl)
      | (apply G_pv; eq_refl; first | exact trivial | omega)
      | (apply G_rd; eq_refl; (first | (apply Rd.own; (repeat first | exact In.here | apply In.there | apply In.skip); infer_instance) | (apply Rd.old; (repeat first | exact In.here | apply In.there | apply In.skip); assumption) | (apply Rd.oldR; (repeat first | exact In.here | apply In.there | apply In.skip); assumption) | exact Rd.nil | assumption); (case ih => infer_instance); omega; omega; eq_refl)
      | (apply G_cmpT; eq_refl; eq_refl; omega)
      | (apply G_ix; eq_refl; eq_refl; (first | (apply Rd.own; (repeat first | exact In.here | apply In.there | apply In.skip); infer_instance) | (apply Rd.old; (repeat first | exact In.here | apply In.there | apply In.skip); assumption) | (apply Rd.oldR; (repeat first | exact In.here | apply In.there | apply In.skip); assumption) | exact Rd.nil | assumption); (first | eq_refl | omega); omega; omega))
      exact ⟨(i + 1, _, _, _), (by repeat first | exact trivial | refine ⟨rfl, ?_⟩), (by repeat first | exact Wk.nil | exact Wk.refl | (apply Wk.cons; (focus ((repeat first | exact Rem.here | apply Rem.there | apply Rem.skip); done))) | apply Wk.nilv | apply Wk.last | apply Wk.drop), ⟨hlt, by rw [hsc]⟩, by simp only; omega⟩
    · obtain rfl : i = c.justice.length := by omega
      rw [List.take_length] at hFl
      repeat' (first
      | (apply G_callC (C := fairC b7 _ _ _ AF kF F); exact wr_p; eq_refl; infer_instance; eq_refl; (repeat first | exact Rems.nil | (apply Rems.cons; (focus ((repeat first | exact Rem.here | apply Rem.there | apply Rem.skip); done)))); (apply hfr; (repeat first | exact Rems.nil | (apply Rems.cons; (focus ((repeat first | exact Rem.here | apply Rem.there | apply Rem.skip); done)))); (repeat first | exact In.here | apply In.there | apply In.skip); (repeat first | exact In.here | apply In.there | apply In.skip); exact hFair; exact fun l hl => R.fair hl; omega); rintro _ _ ⟨rfl, A9, k9, rfl⟩)
      | (apply GC_seqK; intro K hK)
      | (apply hK; clear hK K)
      | (clear hK K; apply hK; clear hK K)
      | (apply GC_region)
      | (apply GL_nil)
      | (apply thenG_normal)
      | (apply thenG_exit)
      | (apply blockG_hit)
      | (apply GC_ret)
      | (apply GC_exit)
      | (apply GC_if_false; eq_refl)
      | (apply retGC0; eq_refl; (repeat first | exact In.here | apply In.there | apply In.skip); eq_refl)
      | (apply GL_on; eq_refl; eq_refl)
      | (apply G_pv; eq_refl; first | exact trivial | omega)
      | (apply G_field; eq_refl)
      | (apply G_ldW; eq_refl; (repeat first | exact In.here | apply In.there | apply In.skip); eq_refl)
      | (apply G_ldO; eq_refl; (repeat first | exact In.here | apply In.there | apply In.skip); assumption; eq_refl)
      | (apply G_cmpF; eq_refl; eq_refl; omega)
      | (apply G_stW; (first | exact wr_p | kernel_rfl); eq_refl; eq_refl; eq_refl; eq_refl; (repeat first | exact Upd.here | apply Upd.there | apply Upd.skip); eq_refl))
      subst hF hB
      exact ⟨_, (by repeat first | exact Wk.nil | exact Wk.refl | (apply Wk.cons; (focus ((repeat first | exact Rem.here | apply Rem.there | apply Rem.skip); done))) | apply Wk.nilv | apply Wk.last | apply Wk.drop), ((A0, k0), (AB, kB), (A9, k9)), rfl, rfl⟩
end SC
end Go.Proofs.Ytkndegjodnciaaa
end
section
/- Traces and runs. trestleref07: Fits, Run0, Run; sim: Run. -/
set_option linter.unusedVariables false
set_option linter.unusedSimpArgs false
namespace Go.Proofs.Ytkndegjodnciaaa
namespace SC
open Go.Proofs
abbrev Hdl := Option Addr × Nat
/-- A trace, each row with its handle. -/
structure Trc where
  init : List Bool
  rows : List (Hdl × List Bool)
  loop : Int
def tcs (t : Trc) (a b : Hdl) : List Value := [.slice a.1 t.init.length a.2, .slice b.1 t.rows.length b.2, nu t.loop]
structure TrcIn (w : World) (t : Trc) (a b : Hdl) : Prop where
  init : RowA w booc 1 a.1 t.init
  rows : RowA w encS 1 b.1 t.rows
  each : ∀ p ∈ t.rows, RowA w booc 1 p.1.1 p.2
  nila : a.1 = none → a.2 = 0
  nilb : b.1 = none → b.2 = 0
  nile : ∀ p ∈ t.rows, p.1.1 = none → p.1.2 = 0
  li : t.init.length ≤ 140737488351232
  lr : t.rows.length ≤ 5864062014634
  le : ∀ p ∈ t.rows, p.2.length ≤ 140737488351232
  lo : fits t.loop
theorem TrcIn.chg {w w' : World} {t : Trc} {a b : Hdl} (H : TrcIn w t a b) (hc : Chg w w' none_) : TrcIn w' t a b := ⟨H.init.chg hc, H.rows.chg hc, fun p hp => (H.each p hp).chg hc, H.nila, H.nilb, H.nile, H.li, H.lr, H.le, H.lo⟩
def fitsM (c : Circ) (t : Trc) : Bool := decide (t.init.length = c.latches.length) && decide (1 ≤ t.rows.length) && decide (t.rows.length ≤ 512) && decide (-1 ≤ t.loop) && decide (t.loop < t.rows.length) && t.rows.all fun p => decide (p.2.length = c.inputs.length)
structure Fit (c : Circ) (t : Trc) : Prop where
  init : t.init.length = c.latches.length
  pos : 1 ≤ t.rows.length
  few : t.rows.length ≤ 512
  lo : -1 ≤ t.loop
  hi : t.loop < t.rows.length
  rows : ∀ p ∈ t.rows, p.2.length = c.inputs.length
theorem fitsM_iff {c : Circ} {t : Trc} : fitsM c t = true ↔ Fit c t := by
  unfold fitsM
  simp only [Bool.and_eq_true, decide_eq_true_eq, List.all_eq_true]
  exact ⟨fun ⟨⟨⟨⟨⟨h1, h2⟩, h3⟩, h4⟩, h5⟩, h6⟩ => ⟨h1, h2, h3, h4, h5, h6⟩, fun h => ⟨⟨⟨⟨⟨h.init, h.pos⟩, h.few⟩, h.lo⟩, h.hi⟩, h.rows⟩⟩
theorem fitsM_false {c : Circ} {t : Trc} (h : ¬ Fit c t) : fitsM c t = false := by
  cases hf : fitsM c t
  · rfl
  · exact absurd (fitsM_iff.1 hf) h
/-- The states of a run, and what is so in its steps. -/
noncomputable def stM (c : Circ) (t : Trc) : Nat → List Bool
  | 0 => t.init
  | k + 1 => nxtM c (valM c (stM c t k) (gt t.rows (k : Int)).2)
noncomputable def runM (c : Circ) (t : Trc) (n : Nat) : List Mom := (List.range n).map fun k => momM c (stM c t k) (valM c (stM c t k) (gt t.rows (k : Int)).2)
theorem runM_succ (c : Circ) (t : Trc) (n : Nat) : runM c t (n + 1) = runM c t n ++ [momM c (stM c t n) (valM c (stM c t n) (gt t.rows (n : Int)).2)] := by unfold runM; rw [List.range_succ, List.map_append]; rfl
theorem runM_len (c : Circ) (t : Trc) (n : Nat) : (runM c t n).length = n := by unfold runM; simp
theorem stM_len {c : Circ} {t : Trc} (h : t.init.length = c.latches.length) : ∀ k, (stM c t k).length = c.latches.length
  | 0 => h
  | k + 1 => by unfold stM nxtM; simp
noncomputable def runE (c : Circ) (t : Trc) : Int := if (lookM c).2 ≠ 0 then (lookM c).2 else if fitsM c t = true then 0 else 4
noncomputable def runsM (c : Circ) (t : Trc) : List Mom := if runE c t = 0 then runM c t t.rows.length else []
theorem runE_look {c : Circ} {t : Trc} (h : (lookM c).2 ≠ 0) : runE c t = (lookM c).2 := if_pos h
theorem runE_fit {c : Circ} {t : Trc} (h : (lookM c).2 = 0) (h2 : Fit c t) : runE c t = 0 := by unfold runE; rw [if_neg (by omega), if_pos (fitsM_iff.2 h2)]
theorem runE_not {c : Circ} {t : Trc} (h : (lookM c).2 = 0) (h2 : ¬ Fit c t) : runE c t = 4 := by unfold runE; rw [if_neg (by omega), if_neg (fun hh => h2 (fitsM_iff.1 hh))]
theorem runE_zero {c : Circ} {t : Trc} (h : runE c t = 0) : (lookM c).2 = 0 ∧ Fit c t := by
  unfold runE at h
  split at h
  · exact absurd h (by assumption)
  · split at h
    · rename_i h1 h2; exact ⟨by omega, fitsM_iff.1 h2⟩
    · cases h
/-- What Run answers. -/
def RunR (c : Circ) (t : Trc) (v : Value) (N : Mm) : Prop := ∃ (ps : List (HMom × Mom)) (A : Option Addr) (k : Nat), v = .tuple #[.slice A ps.length k, nu (runE c t)] ∧ ps.map (·.2) = runsM c t ∧ N = .vec encM 4 82 A k ps :: fam momE ps
theorem In.nil0 {Γ : Mm} {α : Type} {enc : α → List Value} {sz : Nat} {t : TypeId} {A : Option Addr} {c : Nat} {l : List α} {w : World} (h : In Γ (.vec enc sz t A c l)) (M : Mem w Γ) (hA : A = none) : c = 0 := by
  rcases (h.ok M).2 with ⟨h1, _⟩ | ⟨g, cap, cur, h1, _⟩
  · simp only [Value.slice.injEq] at h1; exact h1.2.2
  · simp only [Value.slice.injEq] at h1; rw [h1.1] at hA; cases hA
instance : Inhabited HMom := ⟨((none, 0), (none, 0), (none, 0))⟩
attribute [local irreducible] WC WL WX WS WO OX Does DoesU Enters CV Pure thenQ blockQ retQ Wants retQC GC GL GS GX RdB thenG blockG retG Rd At gt CVN CVM
set_option maxRecDepth 100000
theorem Fits_cv {w : World} {c : Circ} {h js : Hd} {t : Trc} {a b : Hdl} (H : CirAt w c h js) (hc : c.latches.length ≤ 16384 ∧ c.inputs.length ≤ 16384) (HT : TrcIn w t a b) : CVN Try.prog 111 [.agg (ccells c h).toArray, .agg (tcs t a b).toArray] w fun v N => N = [] ∧ v = .bool (fitsM c t) := by
  have hR := HT.rows
  have hlr := HT.lr
  have hli := HT.li
  have hlo := HT.lo
  unfold fits at hlo
  obtain ⟨hc1, hc2⟩ := hc
  refine CVN.enter 51 [4] Try.func111 rfl rfl rfl (by decide) rfl ?_
  by_cases h1 : t.init.length = c.latches.length ∧ 1 ≤ t.rows.length ∧ t.rows.length ≤ 512 ∧ -1 ≤ t.loop ∧ t.loop < t.rows.length
  · obtain ⟨g1, g2, g3, g4, g5⟩ := h1
    repeat' (first
      | (apply GC_seqK; intro K hK)
      | (apply hK; clear hK K)
      | (apply GC_block)
      | (apply GC_region)
      | (apply GL_nil)
      | (apply thenG_normal)
      | (apply GC_skip)
      | (apply GC_if_false; eq_refl)
      | (apply GL_on; eq_refl; eq_refl)
      | (apply G_pv; eq_refl; first | exact trivial | omega)
      | (apply G_field; eq_refl)
      | (apply G_ld; eq_refl; (repeat first | exact In.here | apply In.there | apply In.skip); eq_refl)
      | (apply G_cmpF; eq_refl; eq_refl; omega)
      | (apply G_len; eq_refl)
      | (apply G_box; eq_refl; eq_refl; intro _))
    rename_i b0 b1
    refine GC_loopK [2, 3, 5] (fun i : Nat => [(6, nu i)]) (fun _ => [.box b1 73 (tcs t a b), .box b0 51 (ccells c h), .old w none_]) (fun i => i ≤ t.rows.length ∧ ∀ k < i, (gt t.rows (k : Int)).2.length = c.inputs.length) (fun i => t.rows.length - i) 0 (by repeat first | exact Pick.nil | (apply Pick.cons; eq_refl)) (by repeat first | exact trivial | refine ⟨rfl, ?_⟩) (by repeat first | exact Wk.nil | exact Wk.refl | (apply Wk.cons; (focus ((repeat first | exact Rem.here | apply Rem.there | apply Rem.skip); done))) | apply Wk.nilv | apply Wk.last | apply Wk.drop) ⟨Nat.zero_le _, fun k hk => absurd hk (Nat.not_lt_zero _)⟩ ?_
    rintro i ⟨hi, hall⟩
    rcases Nat.lt_or_ge i t.rows.length with hlt | hge
    · have hm := gt_mem (l := t.rows) (i := (i : Int)) (by omega) (by omega)
      have hle := HT.le _ hm
      by_cases hx : (gt t.rows (i : Int)).2.length = c.inputs.length
      · repeat' (first
      | (apply GC_seqK; intro K hK)
      | (apply hK; clear hK K)
      | (apply GC_block)
      | (apply GC_region)
      | (apply GL_nil)
      | (apply thenG_normal)
      | (apply blockG_normal)
      | (apply GC_skip)
      | (apply GC_if_true; eq_refl)
      | (apply GC_if_false; eq_refl)
      | (apply GL_on; eq_refl; eq_refl)
      | (refine GC_draws (id := 7) [.q 0, .q 1, .q 2, .q 3, .q 4, .q 5, .q 6, .q 7, .q 8, .q 9] mixed (by kernel_rfl) (by kernel_rfl) ?_)
      | (apply GS_nil)
      | (apply GS_qon; eq_refl; eq_refl; eq_refl; eq_refl)
      | (apply G_pv; eq_refl; first | exact trivial | omega)
      | (apply G_field; eq_refl)
      | (apply G_ld; eq_refl; (repeat first | exact In.here | apply In.there | apply In.skip); eq_refl)
      | (apply G_rd; eq_refl; (first | (apply Rd.own; (repeat first | exact In.here | apply In.there | apply In.skip); infer_instance) | (apply Rd.old; (repeat first | exact In.here | apply In.there | apply In.skip); assumption) | (apply Rd.oldR; (repeat first | exact In.here | apply In.there | apply In.skip); assumption) | exact Rd.nil | assumption); (case ih => infer_instance); omega; omega; eq_refl)
      | (apply G_cmpT; eq_refl; eq_refl; omega)
      | (apply G_cmpF; eq_refl; eq_refl; omega)
      | (apply G_len; eq_refl)
      | (apply G_ix; eq_refl; eq_refl; (first | (apply Rd.own; (repeat first | exact In.here | apply In.there | apply In.skip); infer_instance) | (apply Rd.old; (repeat first | exact In.here | apply In.there | apply In.skip); assumption) | (apply Rd.oldR; (repeat first | exact In.here | apply In.there | apply In.skip); assumption) | exact Rd.nil | assumption); (first | eq_refl | omega); omega; omega))
        exact ⟨i + 1, (by repeat first | exact trivial | refine ⟨rfl, ?_⟩), (by repeat first | exact Wk.nil | exact Wk.refl | (apply Wk.cons; (focus ((repeat first | exact Rem.here | apply Rem.there | apply Rem.skip); done))) | apply Wk.nilv | apply Wk.last | apply Wk.drop), ⟨hlt, fun k hk => if h1 : k < i then hall k h1 else by rw [show k = i by omega]; exact hx⟩, by omega⟩
      · repeat' (first
      | (apply GC_seqK; intro K hK)
      | (apply hK; clear hK K)
      | (apply GC_block)
      | (apply GC_region)
      | (apply GL_nil)
      | (apply thenG_normal)
      | (apply thenG_ret)
      | (apply blockG_ret)
      | (apply GC_ret)
      | (apply GC_skip)
      | (apply GC_if_true; eq_refl)
      | (apply retG1; eq_refl)
      | (apply GL_on; eq_refl; eq_refl)
      | (refine GC_draws (id := 7) [.q 0, .q 1, .q 2, .q 3, .q 4, .q 5, .q 6, .q 7, .q 8, .q 9] mixed (by kernel_rfl) (by kernel_rfl) ?_)
      | (apply GS_nil)
      | (apply GS_qon; eq_refl; eq_refl; eq_refl; eq_refl)
      | (apply G_pv; eq_refl; first | exact trivial | omega)
      | (apply G_field; eq_refl)
      | (apply G_ld; eq_refl; (repeat first | exact In.here | apply In.there | apply In.skip); eq_refl)
      | (apply G_rd; eq_refl; (first | (apply Rd.own; (repeat first | exact In.here | apply In.there | apply In.skip); infer_instance) | (apply Rd.old; (repeat first | exact In.here | apply In.there | apply In.skip); assumption) | (apply Rd.oldR; (repeat first | exact In.here | apply In.there | apply In.skip); assumption) | exact Rd.nil | assumption); (case ih => infer_instance); omega; omega; eq_refl)
      | (apply G_cmpT; eq_refl; eq_refl; omega)
      | (apply G_len; eq_refl)
      | (apply G_ix; eq_refl; eq_refl; (first | (apply Rd.own; (repeat first | exact In.here | apply In.there | apply In.skip); infer_instance) | (apply Rd.old; (repeat first | exact In.here | apply In.there | apply In.skip); assumption) | (apply Rd.oldR; (repeat first | exact In.here | apply In.there | apply In.skip); assumption) | exact Rd.nil | assumption); (first | eq_refl | omega); omega; omega))
        exact ⟨[], (by repeat first | exact Wk.nil | exact Wk.refl | (apply Wk.cons; (focus ((repeat first | exact Rem.here | apply Rem.there | apply Rem.skip); done))) | apply Wk.nilv | apply Wk.last | apply Wk.drop), rfl, by rw [fitsM_false fun hf => hx (hf.rows _ hm)]⟩
    · repeat' (first
      | (apply GC_seqK; intro K hK)
      | (apply hK; clear hK K)
      | (clear hK K; apply hK; clear hK K)
      | (apply GC_region)
      | (apply GL_nil)
      | (apply thenG_normal)
      | (apply thenG_exit)
      | (apply blockG_hit)
      | (apply GC_ret)
      | (apply GC_exit)
      | (apply GC_if_false; eq_refl)
      | (apply retG1; eq_refl)
      | (apply GL_on; eq_refl; eq_refl)
      | (apply G_pv; eq_refl; first | exact trivial | omega)
      | (apply G_cmpF; eq_refl; eq_refl; omega))
      refine ⟨[], (by repeat first | exact Wk.nil | exact Wk.refl | (apply Wk.cons; (focus ((repeat first | exact Rem.here | apply Rem.there | apply Rem.skip); done))) | apply Wk.nilv | apply Wk.last | apply Wk.drop), rfl, ?_⟩
      rw [fitsM_iff.2 ⟨g1, g2, g3, g4, g5, fun p hp => ?_⟩]
      obtain ⟨k, hk, rfl⟩ := List.mem_iff_getElem.1 hp
      rw [← gt_nat hk]
      exact hall k (by omega)
  · have hf : fitsM c t = false := fitsM_false fun hf => h1 ⟨hf.init, hf.pos, hf.few, hf.lo, hf.hi⟩
    rw [hf]
    repeat' (first
      | (apply GC_seqK; intro K hK)
      | (apply hK; clear hK K)
      | (apply GC_region)
      | (apply GL_nil)
      | (apply thenG_normal)
      | (apply thenG_ret)
      | (apply GC_ret)
      | (apply GC_if_true; eq_refl)
      | (apply retG1; eq_refl)
      | (apply GL_on; eq_refl; eq_refl)
      | (apply GL_off; eq_refl; eq_refl)
      | (apply G_pv; eq_refl; first | exact trivial | omega)
      | (apply G_field; eq_refl)
      | (apply G_ld; eq_refl; (repeat first | exact In.here | apply In.there | apply In.skip); eq_refl)
      | (apply G_cmpT; eq_refl; eq_refl; omega)
      | (apply G_cmp; eq_refl; eq_refl; all_goals intro _)
      | (apply G_len; eq_refl)
      | (apply G_box; eq_refl; eq_refl; intro _))
    all_goals first
      | exact ⟨[], (by repeat first | exact Wk.nil | exact Wk.refl | (apply Wk.cons; (focus ((repeat first | exact Rem.here | apply Rem.there | apply Rem.skip); done))) | apply Wk.nilv | apply Wk.last | apply Wk.drop), rfl, rfl⟩
      | (exfalso; omega)
theorem Run0_cv {w : World} {c : Circ} {h js : Hd} {t : Trc} {a b : Hdl} {B : Option Addr} {k1 : Nat} (R : Right c) (H : CirAt w c h js) (hf : c.Fits) (hB : RowA w icell 1 B (ordM c)) (HT : TrcIn w t a b) (F : Fit c t) :
    CVN Try.prog 112 [.agg (ccells c h).toArray, .slice B (ordM c).length k1, .agg (tcs t a b).toArray] w fun v N => ∃ (ps : List (HMom × Mom)) (A : Option Addr) (k : Nat) (A' : Option Addr) (k' : Nat), v = .tuple #[.slice A ps.length k, .slice A' c.latches.length k'] ∧ ps.map (·.2) = runM c t t.rows.length ∧ N = .vec booc 1 4 A' k' (stM c t t.rows.length) :: .vec encM 4 82 A k ps :: fam momE ps := by
  have hR := HT.rows
  have hI := HT.init
  have hna := HT.nila
  have g1 := F.init
  have g3 := F.few
  have n2 := R.nLat
  have hv0 : ∀ Γ A k s (i : Nat), i < t.rows.length → s = stM c t i → In Γ (.old w none_) → In Γ (.vec booc 1 4 A k s) → ∀ w', Mem w' Γ → CVN Try.prog 116 [.agg (ccells c h).toArray, .slice B (ordM c).length k1, .slice A s.length k, .slice (gt t.rows (i : Int)).1.1 (gt t.rows (i : Int)).2.length (gt t.rows (i : Int)).1.2] w' _ := fun Γ A k s i hi hs ho hv w' M => by
    have hm := gt_mem (l := t.rows) (i := (i : Int)) (by omega) (by omega)
    exact Values0_cv R (H.chg (ho.old M)) (hB.chg (ho.old M)) (hv.row M) ((HT.each _ hm).chg (ho.old M)) (by rw [hs]; exact stM_len F.init i) (F.rows _ hm)
  have hmo : ∀ Γ A k A' k' s r, s.length = c.latches.length → In Γ (.old w none_) → In Γ (.vec booc 1 4 A k s) → In Γ (.vec booc 1 4 A' k' (valM c s r)) → ∀ w', Mem w' Γ → CVN Try.prog 147 [.agg (ccells c h).toArray, .slice A s.length k, .slice A' (valM c s r).length k'] w' _ := fun Γ A k A' k' s r hs ho hv hv' w' M =>
    momentRef_cv R (H.chg (ho.old M)) hf (hv.row M) (hv.nil0 M) (by omega) (hv'.row M) (valM_len c s r)
  have hnx : ∀ Γ A k s r, In Γ (.old w none_) → In Γ (.vec booc 1 4 A k (valM c s r)) → ∀ w', Mem w' Γ → CVN Try.prog 117 [.agg (ccells c h).toArray, .slice A (valM c s r).length k] w' _ := fun Γ A k s r ho hv w' M =>
    Next0_cv (H.chg (ho.old M)) (hv.row M) R.nLat fun x hx => (R.lat hx).2.1.has R.m1 (valM_len c s r)
  refine CVN.enter 44 [6, 7] Try.func112 rfl rfl rfl (by decide) rfl ?_
  repeat' (first
      | (apply GC_seqK; intro K hK)
      | (apply hK; clear hK K)
      | (apply GC_block)
      | (apply GC_region)
      | (apply GL_nil)
      | (apply thenG_normal)
      | (apply GL_on; eq_refl; eq_refl)
      | (apply G_pv; eq_refl; first | exact trivial | omega)
      | (apply G_field; eq_refl)
      | (apply G_ld; eq_refl; (repeat first | exact In.here | apply In.there | apply In.skip); eq_refl)
      | (apply G_box; eq_refl; eq_refl; intro _)
      | (apply G_appBR; (first | exact wr_p | kernel_rfl); eq_refl; eq_refl; (first | (apply Rd.own; (repeat first | exact In.here | apply In.there | apply In.skip); infer_instance) | (apply Rd.old; (repeat first | exact In.here | apply In.there | apply In.skip); assumption) | (apply Rd.oldR; (repeat first | exact In.here | apply In.there | apply In.skip); assumption) | exact Rd.nil | assumption); infer_instance; (repeat first | exact Upd.here | apply Upd.there | apply Upd.skip); (repeat first | exact Dec.nil | apply Dec.pr | apply Dec.tr | (apply Dec.c1; eq_refl) | (apply Dec.c2; eq_refl) | (apply Dec.c3; eq_refl)); (intro A c; (repeat first | exact Upd.here | apply Upd.there | apply Upd.skip)); (intro _; trivial); (first | (apply Rd.own; (repeat first | exact In.here | apply In.there | apply In.skip); infer_instance) | (apply Rd.old; (repeat first | exact In.here | apply In.there | apply In.skip); assumption) | (apply Rd.oldR; (repeat first | exact In.here | apply In.there | apply In.skip); assumption) | exact Rd.nil | assumption); assumption; eq_refl; eq_refl; decide; eq_refl; eq_refl; (try simp only [List.length_nil]); omega; decide; intro _ _)
      | (apply G_new (fun b => .slice (some ⟨b, 0, none⟩) 0 0); eq_refl; (intro _; apply buildS62_0); intro _))
  rename_i b3 b5 b12 A8 c8
  refine GC_loopK [1, 3, 5] (fun s : Nat × (List Bool × Option Addr × Nat) × (List (HMom × Mom) × Option Addr × Nat) => [(8, .slice s.2.1.2.1 s.2.1.1.length s.2.1.2.2), (9, .slice s.2.2.2.1 s.2.2.1.length s.2.2.2.2), (10, nu s.1)])
    (fun s => .vec booc 1 4 s.2.1.2.1 s.2.1.2.2 s.2.1.1 :: .vec encM 4 82 s.2.2.2.1 s.2.2.2.2 s.2.2.1 :: .box b5 73 (tcs t a b) :: .box b3 51 (ccells c h) :: .old w none_ :: fam momE s.2.2.1)
    (fun s => s.1 ≤ t.rows.length ∧ s.2.1.1 = stM c t s.1 ∧ s.2.2.1.map (·.2) = runM c t s.1) (fun s => t.rows.length - s.1) (0, (t.init, A8, c8), ([], none, 0)) (by repeat first | exact Pick.nil | (apply Pick.cons; eq_refl)) (by repeat first | exact trivial | refine ⟨rfl, ?_⟩) (by repeat first | exact Wk.nil | exact Wk.refl | (apply Wk.cons; (focus ((repeat first | exact Rem.here | apply Rem.there | apply Rem.skip); done))) | apply Wk.nilv | apply Wk.last | apply Wk.drop) ⟨Nat.zero_le _, rfl, rfl⟩ ?_
  rintro ⟨i, ⟨st, A8, c8⟩, ⟨ps, A9, c9⟩⟩ ⟨hi, hst, hps⟩
  dsimp only at hi hst hps ⊢
  have hpl : ps.length = i := by have := congrArg List.length hps; rw [List.length_map, runM_len] at this; exact this
  have hsl : st.length = c.latches.length := by rw [hst]; exact stM_len F.init i
  rcases Nat.lt_or_ge i t.rows.length with hlt | hge
  · repeat' (first
      | (apply G_call; eq_refl; eq_refl; (apply hv0; exact hlt; exact hst; (repeat first | exact In.here | apply In.there | apply In.skip); (repeat first | exact In.here | apply In.there | apply In.skip)); rintro _ _ ⟨A11, k11, rfl, rfl⟩)
      | (apply G_call; eq_refl; eq_refl; (apply hmo; exact hsl; (repeat first | exact In.here | apply In.there | apply In.skip); (repeat first | exact In.here | apply In.there | apply In.skip); (repeat first | exact In.here | apply In.there | apply In.skip)); rintro _ _ ⟨hm, rfl, rfl⟩)
      | (apply G_call; eq_refl; eq_refl; (apply hnx; (repeat first | exact In.here | apply In.there | apply In.skip); (repeat first | exact In.here | apply In.there | apply In.skip)); rintro _ _ ⟨A12, k12, rfl, rfl⟩)
      | (apply G_app; exact wr_p; eq_refl; eq_refl; (intro A c; (repeat first | exact Upd.here | apply Upd.there | apply Upd.skip)); infer_instance; (repeat first | exact In.here | apply In.there | apply In.skip); exact Dec.one (hm, momM _ _ _); eq_refl; eq_refl; eq_refl; (simp only [List.length_cons, List.length_nil]; omega); decide; intro A13 k13)
      | (apply GC_seqK; intro K hK)
      | (apply hK; clear hK K)
      | (apply GC_block)
      | (apply GC_region)
      | (apply GL_nil)
      | (apply thenG_normal)
      | (apply blockG_normal)
      | (apply GC_skip)
      | (apply GC_if_true; eq_refl)
      | (apply GL_on; eq_refl; eq_refl)
      | (refine GC_draws (id := 6) [.q 0, .q 1, .q 2, .q 3, .q 4, .q 5, .q 6, .q 7, .c 8, .q 9] mixed (by kernel_rfl) (by kernel_rfl) ?_)
      | (apply GS_nil)
      | (apply GS_qon; eq_refl; eq_refl; eq_refl; eq_refl)
      | (apply GS_con; eq_refl; eq_refl; eq_refl; eq_refl)
      | (apply G_pv; eq_refl; first | exact trivial | omega)
      | (apply G_field; eq_refl)
      | (apply G_ld; eq_refl; (repeat first | exact In.here | apply In.there | apply In.skip); eq_refl)
      | (apply G_ldW; eq_refl; (repeat first | exact In.here | apply In.there | apply In.skip); eq_refl)
      | (apply G_rd; eq_refl; (first | (apply Rd.own; (repeat first | exact In.here | apply In.there | apply In.skip); infer_instance) | (apply Rd.old; (repeat first | exact In.here | apply In.there | apply In.skip); assumption) | (apply Rd.oldR; (repeat first | exact In.here | apply In.there | apply In.skip); assumption) | exact Rd.nil | assumption); (case ih => infer_instance); omega; omega; eq_refl)
      | (apply G_cmpT; eq_refl; eq_refl; omega)
      | (apply G_len; eq_refl)
      | (apply G_ix; eq_refl; eq_refl; (first | (apply Rd.own; (repeat first | exact In.here | apply In.there | apply In.skip); infer_instance) | (apply Rd.old; (repeat first | exact In.here | apply In.there | apply In.skip); assumption) | (apply Rd.oldR; (repeat first | exact In.here | apply In.there | apply In.skip); assumption) | exact Rd.nil | assumption); (first | eq_refl | omega); omega; omega)
      | (apply G_new (fun b => .slice (some ⟨b, 0, none⟩) 1 1); eq_refl; (intro _; apply buildS75_1 <;> eq_refl); intro _))
    refine ⟨(i + 1, (_, _, _), (_, _, _)), (by repeat first | exact trivial | refine ⟨rfl, ?_⟩), ?_, ⟨hlt, ?_, ?_⟩, by simp only; omega⟩
    · dsimp only
      rw [fam_snoc]
      exact (by repeat first | exact Wk.nil | exact Wk.refl | (apply Wk.cons; (focus ((repeat first | exact Rem.here | apply Rem.there | apply Rem.skip); done))) | apply Wk.nilv | apply Wk.last | apply Wk.drop)
    · dsimp only
      rw [hst]
      rfl
    · dsimp only
      rw [List.map_append, hps, runM_succ, ← hst]
      rfl
  · obtain rfl : i = t.rows.length := by omega
    repeat' (first
      | (apply GC_seqK; intro K hK)
      | (apply hK; clear hK K)
      | (clear hK K; apply hK; clear hK K)
      | (apply GC_region)
      | (apply GL_nil)
      | (apply thenG_normal)
      | (apply thenG_exit)
      | (apply blockG_hit)
      | (apply GC_ret)
      | (apply GC_exit)
      | (apply GC_if_false; eq_refl)
      | (apply retG2; eq_refl; eq_refl)
      | (apply GL_on; eq_refl; eq_refl)
      | (apply G_pv; eq_refl; first | exact trivial | omega)
      | (apply G_field; eq_refl)
      | (apply G_ld; eq_refl; (repeat first | exact In.here | apply In.there | apply In.skip); eq_refl)
      | (apply G_cmpF; eq_refl; eq_refl; omega)
      | (apply G_len; eq_refl))
    exact ⟨_ :: _ :: fam momE ps, (by repeat first | exact Wk.nil | exact Wk.refl | (apply Wk.cons; (focus ((repeat first | exact Rem.here | apply Rem.there | apply Rem.skip); done))) | apply Wk.nilv | apply Wk.last | apply Wk.drop), ps, A9, c9, A8, c8, by rw [hsl], hps, by rw [hst]⟩
end SC
end Go.Proofs.Ytkndegjodnciaaa
end
section
/- trestleref07: Run; sim: Run. -/
set_option linter.unusedVariables false
set_option linter.unusedSimpArgs false
namespace Go.Proofs.Ytkndegjodnciaaa
namespace SC
open Go.Proofs
def stEnt : Nat → Option Addr → Nat → List Bool → Mm
  | 0, _, _, _ => []
  | _ + 1, A, k, l => [.vec booc 1 4 A k l]
attribute [local irreducible] WC WL WX WS WO OX Does DoesU Enters CV Pure thenQ blockQ retQ Wants retQC GC GL GS GX RdB thenG blockG retG Rd At gt CVN CVM
set_option maxRecDepth 100000
theorem RunRef_cv {w : World} {c : Circ} {h js : Hd} {t : Trc} {a b : Hdl} (H : CirIn w c h js) (HT : TrcIn w t a b) : CVN Try.prog 43 [.agg (ccells c h).toArray, .agg (tcs t a b).toArray] w (RunR c t) := by
  have hord : ∀ Γ, In Γ (.old w none_) → ∀ w', Mem w' Γ → CVN Try.prog 27 [.agg (ccells c h).toArray] w' (OrdR c) := fun Γ hi w' M => have H' := H.chg (hi.old M); OrderRefG H'.at_ H'.sane H'.okay H'.fits
  refine CVN.enter 30 [4, 5] Try.func43 rfl rfl rfl (by decide) rfl ?_
  by_cases he : (lookM c).2 = 0
  · have R := right_of H.at_ H.sane he
    have hft : ∀ Γ, In Γ (.old w none_) → ∀ w', Mem w' Γ → CVN Try.prog 111 [.agg (ccells c h).toArray, .agg (tcs t a b).toArray] w' _ := fun Γ hi w' M => Fits_cv (H.at_.chg (hi.old M)) ⟨R.nLat, R.nIn⟩ (HT.chg (hi.old M))
    by_cases hF : Fit c t
    · have e1 : runsM c t = runM c t t.rows.length := if_pos (runE_fit he hF)
      have hr0 : ∀ Γ A k, In Γ (.old w none_) → In Γ (.vec icell 1 3 A k (ordM c)) → ∀ w', Mem w' Γ → CVN Try.prog 112 [.agg (ccells c h).toArray, .slice A (ordM c).length k, .agg (tcs t a b).toArray] w' _ := fun Γ A k hi hv w' M => Run0_cv R (H.at_.chg (hi.old M)) H.fits (hv.row M) (HT.chg (hi.old M)) hF
      rw [fitsM_iff.2 hF] at hft
      unfold RunR
      rw [runE_fit he hF, e1]
      repeat' (first
      | (apply G_call; eq_refl; eq_refl; (apply hord; (repeat first | exact In.here | apply In.there | apply In.skip)); rintro _ _ (⟨he', rfl, rfl⟩ | ⟨_, A1, k1, rfl, rfl⟩); (exact absurd he he'))
      | (apply G_call; eq_refl; eq_refl; (apply hft; (repeat first | exact In.here | apply In.there | apply In.skip)); rintro _ _ ⟨rfl, rfl⟩)
      | (apply G_call; eq_refl; eq_refl; (apply hr0; (repeat first | exact In.here | apply In.there | apply In.skip); (repeat first | exact In.here | apply In.there | apply In.skip)); rintro _ _ ⟨ps, A9, c9, A8, c8, rfl, hps, rfl⟩)
      | (apply GC_seqK; intro K hK)
      | (apply hK; clear hK K)
      | (apply GC_region)
      | (apply GL_nil)
      | (apply thenG_normal)
      | (apply GC_ret)
      | (apply GC_skip)
      | (apply GC_if_false; eq_refl)
      | (apply retG2; eq_refl; eq_refl)
      | (apply GL_on; eq_refl; eq_refl)
      | (apply G_pv; eq_refl; first | exact trivial | omega)
      | (apply G_ldW; eq_refl; (repeat first | exact In.here | apply In.there | apply In.skip); eq_refl)
      | (apply G_cmpF; eq_refl; eq_refl; omega)
      | (apply G_box; eq_refl; eq_refl; intro _))
      refine ⟨_ :: fam momE ps, ?_, ps, A9, c9, rfl, hps, rfl⟩
      refine Wk.drop (Wk.cons .here (Wk.last ?_))
      refine Wk.cons (Rem.skip (by (repeat first | exact Rem.here | apply Rem.there | apply Rem.skip))) ?_
      refine ⟨fun w M => M.left, fun k hk => owns_append.2 (.inl hk)⟩
    · have e1 : runsM c t = [] := if_neg (by rw [runE_not he hF]; decide)
      rw [fitsM_false hF] at hft
      unfold RunR
      rw [runE_not he hF, e1]
      repeat' (first
      | (apply G_call; eq_refl; eq_refl; (apply hord; (repeat first | exact In.here | apply In.there | apply In.skip)); rintro _ _ (⟨he', rfl, rfl⟩ | ⟨_, A1, k1, rfl, rfl⟩); (exact absurd he he'))
      | (apply G_call; eq_refl; eq_refl; (apply hft; (repeat first | exact In.here | apply In.there | apply In.skip)); rintro _ _ ⟨rfl, rfl⟩)
      | (apply GC_seqK; intro K hK)
      | (apply hK; clear hK K)
      | (apply GC_region)
      | (apply GL_nil)
      | (apply thenG_normal)
      | (apply thenG_ret)
      | (apply GC_ret)
      | (apply GC_skip)
      | (apply GC_if_true; eq_refl)
      | (apply GC_if_false; eq_refl)
      | (apply retG2; eq_refl; eq_refl)
      | (apply GL_on; eq_refl; eq_refl)
      | (apply G_pv; eq_refl; first | exact trivial | omega)
      | (apply G_ldW; eq_refl; (repeat first | exact In.here | apply In.there | apply In.skip); eq_refl)
      | (apply G_cmpF; eq_refl; eq_refl; omega)
      | (apply G_box; eq_refl; eq_refl; intro _))
      exact ⟨[.vec encM 4 82 none 0 []], (by repeat first | exact Wk.nil | exact Wk.refl | (apply Wk.cons; (focus ((repeat first | exact Rem.here | apply Rem.there | apply Rem.skip); done))) | apply Wk.nilv | apply Wk.last | apply Wk.drop), [], none, 0, rfl, rfl, rfl⟩
  · have e1 : runsM c t = [] := if_neg (by rw [runE_look he]; exact he)
    unfold RunR
    rw [runE_look he, e1]
    repeat' (first
      | (apply G_call; eq_refl; eq_refl; (apply hord; (repeat first | exact In.here | apply In.there | apply In.skip)); rintro _ _ (⟨_, rfl, rfl⟩ | ⟨he', A1, k1, rfl, rfl⟩); rotate_left; (exact absurd he' he))
      | (apply GC_seqK; intro K hK)
      | (apply hK; clear hK K)
      | (apply GC_region)
      | (apply GL_nil)
      | (apply thenG_normal)
      | (apply thenG_ret)
      | (apply GC_ret)
      | (apply GC_if_true; eq_refl)
      | (apply retG2; eq_refl; eq_refl)
      | (apply GL_on; eq_refl; eq_refl)
      | (apply G_pv; eq_refl; first | exact trivial | omega)
      | (apply G_ldW; eq_refl; (repeat first | exact In.here | apply In.there | apply In.skip); eq_refl)
      | (apply G_cmpT; eq_refl; eq_refl; omega)
      | (apply G_box; eq_refl; eq_refl; intro _))
    exact ⟨[.vec encM 4 82 none 0 []], (by repeat first | exact Wk.nil | exact Wk.refl | (apply Wk.cons; (focus ((repeat first | exact Rem.here | apply Rem.there | apply Rem.skip); done))) | apply Wk.nilv | apply Wk.last | apply Wk.drop), [], none, 0, rfl, rfl, rfl⟩
theorem Run_cv {w : World} {c : Circ} {h js : Hd} {t : Trc} {a b : Hdl} (H : CirIn w c h js) (HT : TrcIn w t a b) : CVN Try.prog 42 [.agg (ccells c h).toArray, .agg (tcs t a b).toArray] w (RunR c t) := by
  have hrd : ∀ Γ, In Γ (.old w none_) → ∀ w', Mem w' Γ → CVN Try.prog 107 [.agg (ccells c h).toArray] w' (ReadyR c h) := fun Γ hi w' M => ready_cv (H.chg (hi.old M))
  have hI := HT.init
  have hR := HT.rows
  have hlr := HT.lr
  have hli := HT.li
  have hlo := HT.lo
  unfold fits at hlo
  refine CVN.enter 94 [4, 5] Try.func42 rfl rfl rfl (by decide) rfl ?_
  by_cases he : (lookM c).2 = 0
  · have R := right_of H.at_ H.sane he
    have n1 := R.nIn
    have n2 := R.nLat
    by_cases h1 : 1 ≤ t.rows.length ∧ t.rows.length ≤ 512 ∧ -1 ≤ t.loop ∧ t.loop < t.rows.length ∧ t.init.length = c.latches.length
    · obtain ⟨g2, g3, g4, g5, g1⟩ := h1
      repeat' (first
      | (apply G_call; eq_refl; eq_refl; (apply hrd; (repeat first | exact In.here | apply In.there | apply In.skip)); rintro _ _ (⟨he', rfl, rfl⟩ | ⟨_, p1, B1, k1, rfl, rfl⟩); (exact absurd he he'))
      | (apply GC_seqK; intro K hK)
      | (apply hK; clear hK K)
      | (apply GC_block)
      | (apply GC_region)
      | (apply GL_nil)
      | (apply thenG_normal)
      | (apply GC_skip)
      | (apply GC_if_false; eq_refl)
      | (apply GL_on; eq_refl; eq_refl)
      | (apply G_pv; eq_refl; first | exact trivial | omega)
      | (apply G_field; eq_refl)
      | (apply G_ld; eq_refl; (repeat first | exact In.here | apply In.there | apply In.skip); eq_refl)
      | (apply G_ldW; eq_refl; (repeat first | exact In.here | apply In.there | apply In.skip); eq_refl)
      | (apply G_cmpF; eq_refl; eq_refl; omega)
      | (apply G_len; eq_refl)
      | (apply G_box; eq_refl; eq_refl; intro _))
      rename_i b2 b3 hz
      refine GC_loopK [2, 3, 6, 8, 54, 55] (fun i : Nat => [(56, nu i)]) (fun _ => [.box p1 163 (rcells c h B1 k1), .vec icell 1 3 B1 k1 (ordM c), .box b3 73 (tcs t a b), .box b2 51 (ccells c h), .old w none_]) (fun i => i ≤ t.rows.length ∧ ∀ k < i, (gt t.rows (k : Int)).2.length = c.inputs.length) (fun i => t.rows.length - i) 0 (by repeat first | exact Pick.nil | (apply Pick.cons; eq_refl)) (by repeat first | exact trivial | refine ⟨rfl, ?_⟩) (by repeat first | exact Wk.nil | exact Wk.refl | (apply Wk.cons; (focus ((repeat first | exact Rem.here | apply Rem.there | apply Rem.skip); done))) | apply Wk.nilv | apply Wk.last | apply Wk.drop) ⟨Nat.zero_le _, fun k hk => absurd hk (Nat.not_lt_zero _)⟩ ?_
      rintro i ⟨hi, hall⟩
      rcases Nat.lt_or_ge i t.rows.length with hlt | hge
      · have hm := gt_mem (l := t.rows) (i := (i : Int)) (by omega) (by omega)
        have hle := HT.le _ hm
        by_cases hx : (gt t.rows (i : Int)).2.length = c.inputs.length
        · repeat' (first
      | (apply GC_seqK; intro K hK)
      | (apply hK; clear hK K)
      | (apply GC_block)
      | (apply GC_region)
      | (apply GL_nil)
      | (apply thenG_normal)
      | (apply blockG_normal)
      | (apply GC_skip)
      | (apply GC_if_true; eq_refl)
      | (apply GC_if_false; eq_refl)
      | (apply GL_on; eq_refl; eq_refl)
      | (apply G_pv; eq_refl; first | exact trivial | omega)
      | (apply G_field; eq_refl)
      | (apply G_ld; eq_refl; (repeat first | exact In.here | apply In.there | apply In.skip); eq_refl)
      | (apply G_rd; eq_refl; (first | (apply Rd.own; (repeat first | exact In.here | apply In.there | apply In.skip); infer_instance) | (apply Rd.old; (repeat first | exact In.here | apply In.there | apply In.skip); assumption) | (apply Rd.oldR; (repeat first | exact In.here | apply In.there | apply In.skip); assumption) | exact Rd.nil | assumption); (case ih => infer_instance); omega; omega; eq_refl)
      | (apply G_cmpT; eq_refl; eq_refl; omega)
      | (apply G_cmpF; eq_refl; eq_refl; omega)
      | (apply G_len; eq_refl)
      | (apply G_ix; eq_refl; eq_refl; (first | (apply Rd.own; (repeat first | exact In.here | apply In.there | apply In.skip); infer_instance) | (apply Rd.old; (repeat first | exact In.here | apply In.there | apply In.skip); assumption) | (apply Rd.oldR; (repeat first | exact In.here | apply In.there | apply In.skip); assumption) | exact Rd.nil | assumption); (first | eq_refl | omega); omega; omega))
          exact ⟨i + 1, (by repeat first | exact trivial | refine ⟨rfl, ?_⟩), (by repeat first | exact Wk.nil | exact Wk.refl | (apply Wk.cons; (focus ((repeat first | exact Rem.here | apply Rem.there | apply Rem.skip); done))) | apply Wk.nilv | apply Wk.last | apply Wk.drop), ⟨hlt, fun k hk => if h1 : k < i then hall k h1 else by rw [show k = i by omega]; exact hx⟩, by omega⟩
        · have hnF : ¬ Fit c t := fun hf => hx (hf.rows _ hm)
          have e1 : runsM c t = [] := if_neg (by rw [runE_not he hnF]; decide)
          unfold RunR
          rw [runE_not he hnF, e1]
          repeat' (first
      | (apply GC_seqK; intro K hK)
      | (apply hK; clear hK K)
      | (apply GC_block)
      | (apply GC_region)
      | (apply GL_nil)
      | (apply thenG_normal)
      | (apply thenG_ret)
      | (apply blockG_ret)
      | (apply GC_ret)
      | (apply GC_skip)
      | (apply GC_if_true; eq_refl)
      | (apply retG2; eq_refl; eq_refl)
      | (apply GL_on; eq_refl; eq_refl)
      | (apply G_pv; eq_refl; first | exact trivial | omega)
      | (apply G_field; eq_refl)
      | (apply G_ld; eq_refl; (repeat first | exact In.here | apply In.there | apply In.skip); eq_refl)
      | (apply G_rd; eq_refl; (first | (apply Rd.own; (repeat first | exact In.here | apply In.there | apply In.skip); infer_instance) | (apply Rd.old; (repeat first | exact In.here | apply In.there | apply In.skip); assumption) | (apply Rd.oldR; (repeat first | exact In.here | apply In.there | apply In.skip); assumption) | exact Rd.nil | assumption); (case ih => infer_instance); omega; omega; eq_refl)
      | (apply G_cmpT; eq_refl; eq_refl; omega)
      | (apply G_len; eq_refl)
      | (apply G_ix; eq_refl; eq_refl; (first | (apply Rd.own; (repeat first | exact In.here | apply In.there | apply In.skip); infer_instance) | (apply Rd.old; (repeat first | exact In.here | apply In.there | apply In.skip); assumption) | (apply Rd.oldR; (repeat first | exact In.here | apply In.there | apply In.skip); assumption) | exact Rd.nil | assumption); (first | eq_refl | omega); omega; omega))
          exact ⟨[.vec encM 4 82 none 0 []], (by repeat first | exact Wk.nil | exact Wk.refl | (apply Wk.cons; (focus ((repeat first | exact Rem.here | apply Rem.there | apply Rem.skip); done))) | apply Wk.nilv | apply Wk.last | apply Wk.drop), [], none, 0, rfl, rfl, rfl⟩
      · have F : Fit c t := ⟨g1, g2, g3, g4, g5, fun p hp => by
          obtain ⟨k, hk, rfl⟩ := List.mem_iff_getElem.1 hp
          rw [← gt_nat hk]
          exact hall k (by omega)⟩
        have e1 : runsM c t = runM c t t.rows.length := if_pos (runE_fit he F)
        have hv0 : ∀ Γ S k s (i : Nat), i < t.rows.length → s = stM c t i → In Γ (.old w none_) → Rd Γ booc 1 S s → In Γ (.box p1 163 (rcells c h B1 k1)) → In Γ (.vec icell 1 3 B1 k1 (ordM c)) → ∀ w', Mem w' Γ → CVN Try.prog 108 [pt p1, .slice S s.length k, .slice (gt t.rows (i : Int)).1.1 (gt t.rows (i : Int)).2.length (gt t.rows (i : Int)).1.2] w' _ := fun Γ S k s i hi hs ho hv hb hov w' M => by
          have hm := gt_mem (l := t.rows) (i := (i : Int)) (by omega) (by omega)
          exact values_cv R (hb.box M) (H.at_.chg (ho.old M)) (hov.row M) (hv.at M) ((HT.each _ hm).chg (ho.old M)) (by rw [hs]; exact stM_len F.init i) (F.rows _ hm)
        have hmo : ∀ Γ S k A' k' s r, s.length = c.latches.length → In Γ (.old w none_) → Rd Γ booc 1 S s → In Γ (.box p1 163 (rcells c h B1 k1)) → In Γ (.vec booc 1 4 A' k' (valM c s r)) → ∀ w', Mem w' Γ → CVN Try.prog 109 [pt p1, .slice S s.length k, .slice A' (valM c s r).length k'] w' _ := fun Γ S k A' k' s r hs ho hv hb hv' w' M =>
          moment_cv R (hb.box M) (H.at_.chg (ho.old M)) H.fits (hv.at M) (by omega) (hv'.row M) (valM_len c s r)
        have hnx : ∀ Γ A k s r, In Γ (.old w none_) → In Γ (.box p1 163 (rcells c h B1 k1)) → In Γ (.vec booc 1 4 A k (valM c s r)) → ∀ w', Mem w' Γ → CVN Try.prog 110 [pt p1, .slice A (valM c s r).length k] w' _ := fun Γ A k s r ho hb hv w' M =>
          next_cv (hb.box M) (H.at_.chg (ho.old M)) (hv.row M) R.nLat fun x hx => (R.lat hx).2.1.has R.m1 (valM_len c s r)
        repeat' (first
      | (apply G_make0 encM; eq_refl; eq_refl; eq_refl; omega; eq_refl; omega; decide; omega; intro b0 c0)
      | (apply GC_seqK; intro K hK)
      | (apply hK; clear hK K)
      | (clear hK K; apply hK; clear hK K)
      | (apply GC_block)
      | (apply GC_region)
      | (apply GL_nil)
      | (apply thenG_normal)
      | (apply thenG_exit)
      | (apply blockG_hit)
      | (apply GC_exit)
      | (apply GC_if_false; eq_refl)
      | (apply GL_on; eq_refl; eq_refl)
      | (apply G_pv; eq_refl; first | exact trivial | omega)
      | (apply G_field; eq_refl)
      | (apply G_ld; eq_refl; (repeat first | exact In.here | apply In.there | apply In.skip); eq_refl)
      | (apply G_cmpF; eq_refl; eq_refl; omega)
      | (apply G_len; eq_refl))
        refine GC_loopK [3, 6, 72, 73] (fun s : Nat × (List Bool × Option Addr × Nat) × (List (HMom × Mom) × Option Addr × Nat) => [(12, .slice s.2.1.2.1 s.2.1.1.length s.2.1.2.2), (11, .slice s.2.2.2.1 s.2.2.1.length s.2.2.2.2), (74, nu s.1)])
          (fun s => stEnt s.1 s.2.1.2.1 s.2.1.2.2 s.2.1.1 ++ .vec encM 4 82 s.2.2.2.1 s.2.2.2.2 s.2.2.1 :: .box p1 163 (rcells c h B1 k1) :: .vec icell 1 3 B1 k1 (ordM c) :: .box b3 73 (tcs t a b) :: .old w none_ :: fam momE s.2.2.1)
          (fun s => s.1 ≤ t.rows.length ∧ s.2.1.1 = stM c t s.1 ∧ s.2.2.1.map (·.2) = runM c t s.1 ∧ (s.1 = 0 → s.2.1 = (t.init, a.1, a.2))) (fun s => t.rows.length - s.1) (0, (t.init, a.1, a.2), ([], some ⟨b0, 0, none⟩, c0)) (by repeat first | exact Pick.nil | (apply Pick.cons; eq_refl)) (by repeat first | exact trivial | refine ⟨rfl, ?_⟩) (by repeat first | exact Wk.nil | exact Wk.refl | (apply Wk.cons; (focus ((repeat first | exact Rem.here | apply Rem.there | apply Rem.skip); done))) | apply Wk.nilv | apply Wk.last | apply Wk.drop) ⟨Nat.zero_le _, rfl, rfl, fun _ => rfl⟩ ?_
        rintro ⟨i, ⟨st, A8, c8⟩, ⟨ps, A9, c9⟩⟩ ⟨hi, hst, hps, h0⟩
        dsimp only at hi hst hps h0 ⊢
        have hpl : ps.length = i := by have := congrArg List.length hps; rw [List.length_map, runM_len] at this; exact this
        have hsl : st.length = c.latches.length := by rw [hst]; exact stM_len F.init i
        rcases Nat.lt_or_ge i t.rows.length with hlt | hge
        · have hrow : RowA w booc 1 A8 st ∨ 0 < i := by
            rcases Nat.eq_zero_or_pos i with h1 | h1
            · have := h0 h1
              simp only [Prod.mk.injEq] at this
              rw [this.1, this.2.1]
              exact .inl hI
            · exact .inr h1
          have hex : ∀ {Γ'' : Mm}, True := fun {_} => trivial
          cases i with
          | zero =>
            have hS : RowA w booc 1 A8 st := hrow.resolve_right (by omega)
            repeat' (first
      | (apply G_call; eq_refl; eq_refl; (apply hv0; exact hlt; exact hst; (repeat first | exact In.here | apply In.there | apply In.skip); (first | (apply Rd.own; (repeat first | exact In.here | apply In.there | apply In.skip); infer_instance) | (apply Rd.old; (repeat first | exact In.here | apply In.there | apply In.skip); assumption) | (apply Rd.oldR; (repeat first | exact In.here | apply In.there | apply In.skip); assumption) | exact Rd.nil | assumption); (repeat first | exact In.here | apply In.there | apply In.skip); (repeat first | exact In.here | apply In.there | apply In.skip)); rintro _ _ ⟨A11, k11, rfl, rfl⟩)
      | (apply G_call; eq_refl; eq_refl; (apply hmo; exact hsl; (repeat first | exact In.here | apply In.there | apply In.skip); (first | (apply Rd.own; (repeat first | exact In.here | apply In.there | apply In.skip); infer_instance) | (apply Rd.old; (repeat first | exact In.here | apply In.there | apply In.skip); assumption) | (apply Rd.oldR; (repeat first | exact In.here | apply In.there | apply In.skip); assumption) | exact Rd.nil | assumption); (repeat first | exact In.here | apply In.there | apply In.skip); (repeat first | exact In.here | apply In.there | apply In.skip)); rintro _ _ ⟨hm, rfl, rfl⟩)
      | (apply G_call; eq_refl; eq_refl; (apply hnx; (repeat first | exact In.here | apply In.there | apply In.skip); (repeat first | exact In.here | apply In.there | apply In.skip); (repeat first | exact In.here | apply In.there | apply In.skip)); rintro _ _ ⟨A12, k12, rfl, rfl⟩)
      | (apply G_app; exact wr_p; eq_refl; eq_refl; (intro A c; (repeat first | exact Upd.here | apply Upd.there | apply Upd.skip)); infer_instance; (repeat first | exact In.here | apply In.there | apply In.skip); exact Dec.one (hm, momM _ _ _); eq_refl; eq_refl; eq_refl; (simp only [List.length_cons, List.length_nil]; omega); decide; intro A13 k13)
      | (apply GC_seqK; intro K hK)
      | (apply hK; clear hK K)
      | (apply GC_block)
      | (apply GC_region)
      | (apply GL_nil)
      | (apply thenG_normal)
      | (apply blockG_normal)
      | (apply GC_skip)
      | (apply GC_if_true; eq_refl)
      | (apply GL_on; eq_refl; eq_refl)
      | (apply G_pv; eq_refl; first | exact trivial | omega)
      | (apply G_rd; eq_refl; (first | (apply Rd.own; (repeat first | exact In.here | apply In.there | apply In.skip); infer_instance) | (apply Rd.old; (repeat first | exact In.here | apply In.there | apply In.skip); assumption) | (apply Rd.oldR; (repeat first | exact In.here | apply In.there | apply In.skip); assumption) | exact Rd.nil | assumption); (case ih => infer_instance); omega; omega; eq_refl)
      | (apply G_cmpT; eq_refl; eq_refl; omega)
      | (apply G_ix; eq_refl; eq_refl; (first | (apply Rd.own; (repeat first | exact In.here | apply In.there | apply In.skip); infer_instance) | (apply Rd.old; (repeat first | exact In.here | apply In.there | apply In.skip); assumption) | (apply Rd.oldR; (repeat first | exact In.here | apply In.there | apply In.skip); assumption) | exact Rd.nil | assumption); (first | eq_refl | omega); omega; omega)
      | (apply G_new (fun b => .slice (some ⟨b, 0, none⟩) 1 1); eq_refl; (intro _; apply buildS75_1 <;> eq_refl); intro _))
            refine ⟨(0 + 1, (_, _, _), (_, _, _)), (by repeat first | exact trivial | refine ⟨rfl, ?_⟩), ?_, ⟨hlt, ?_, ?_, fun h => by simp at h⟩, by simp only; omega⟩
            · dsimp only
              rw [fam_snoc]
              exact (by repeat first | exact Wk.nil | exact Wk.refl | (apply Wk.cons; (focus ((repeat first | exact Rem.here | apply Rem.there | apply Rem.skip); done))) | apply Wk.nilv | apply Wk.last | apply Wk.drop)
            · dsimp only
              first | (rw [hst]; done) | (rw [hst]; rfl)
            · dsimp only
              rw [runM_succ c t 0, List.map_append, hps, ← hst]
              first | done | rfl
          | succ i =>
            repeat' (first
      | (apply G_call; eq_refl; eq_refl; (apply hv0; exact hlt; exact hst; (repeat first | exact In.here | apply In.there | apply In.skip); (first | (apply Rd.own; (repeat first | exact In.here | apply In.there | apply In.skip); infer_instance) | (apply Rd.old; (repeat first | exact In.here | apply In.there | apply In.skip); assumption) | (apply Rd.oldR; (repeat first | exact In.here | apply In.there | apply In.skip); assumption) | exact Rd.nil | assumption); (repeat first | exact In.here | apply In.there | apply In.skip); (repeat first | exact In.here | apply In.there | apply In.skip)); rintro _ _ ⟨A11, k11, rfl, rfl⟩)
      | (apply G_call; eq_refl; eq_refl; (apply hmo; exact hsl; (repeat first | exact In.here | apply In.there | apply In.skip); (first | (apply Rd.own; (repeat first | exact In.here | apply In.there | apply In.skip); infer_instance) | (apply Rd.old; (repeat first | exact In.here | apply In.there | apply In.skip); assumption) | (apply Rd.oldR; (repeat first | exact In.here | apply In.there | apply In.skip); assumption) | exact Rd.nil | assumption); (repeat first | exact In.here | apply In.there | apply In.skip); (repeat first | exact In.here | apply In.there | apply In.skip)); rintro _ _ ⟨hm, rfl, rfl⟩)
      | (apply G_call; eq_refl; eq_refl; (apply hnx; (repeat first | exact In.here | apply In.there | apply In.skip); (repeat first | exact In.here | apply In.there | apply In.skip); (repeat first | exact In.here | apply In.there | apply In.skip)); rintro _ _ ⟨A12, k12, rfl, rfl⟩)
      | (apply G_app; exact wr_p; eq_refl; eq_refl; (intro A c; (repeat first | exact Upd.here | apply Upd.there | apply Upd.skip)); infer_instance; (repeat first | exact In.here | apply In.there | apply In.skip); exact Dec.one (hm, momM _ _ _); eq_refl; eq_refl; eq_refl; (simp only [List.length_cons, List.length_nil]; omega); decide; intro A13 k13)
      | (apply GC_seqK; intro K hK)
      | (apply hK; clear hK K)
      | (apply GC_block)
      | (apply GC_region)
      | (apply GL_nil)
      | (apply thenG_normal)
      | (apply blockG_normal)
      | (apply GC_skip)
      | (apply GC_if_true; eq_refl)
      | (apply GL_on; eq_refl; eq_refl)
      | (apply G_pv; eq_refl; first | exact trivial | omega)
      | (apply G_rd; eq_refl; (first | (apply Rd.own; (repeat first | exact In.here | apply In.there | apply In.skip); infer_instance) | (apply Rd.old; (repeat first | exact In.here | apply In.there | apply In.skip); assumption) | (apply Rd.oldR; (repeat first | exact In.here | apply In.there | apply In.skip); assumption) | exact Rd.nil | assumption); (case ih => infer_instance); omega; omega; eq_refl)
      | (apply G_cmpT; eq_refl; eq_refl; omega)
      | (apply G_ix; eq_refl; eq_refl; (first | (apply Rd.own; (repeat first | exact In.here | apply In.there | apply In.skip); infer_instance) | (apply Rd.old; (repeat first | exact In.here | apply In.there | apply In.skip); assumption) | (apply Rd.oldR; (repeat first | exact In.here | apply In.there | apply In.skip); assumption) | exact Rd.nil | assumption); (first | eq_refl | omega); omega; omega)
      | (apply G_new (fun b => .slice (some ⟨b, 0, none⟩) 1 1); eq_refl; (intro _; apply buildS75_1 <;> eq_refl); intro _))
            refine ⟨(i + 1 + 1, (_, _, _), (_, _, _)), (by repeat first | exact trivial | refine ⟨rfl, ?_⟩), ?_, ⟨hlt, ?_, ?_, fun h => by simp at h⟩, by simp only; omega⟩
            · dsimp only
              rw [fam_snoc]
              exact (by repeat first | exact Wk.nil | exact Wk.refl | (apply Wk.cons; (focus ((repeat first | exact Rem.here | apply Rem.there | apply Rem.skip); done))) | apply Wk.nilv | apply Wk.last | apply Wk.drop)
            · dsimp only
              first | (rw [hst]; done) | (rw [hst]; rfl)
            · dsimp only
              rw [runM_succ c t (i + 1), List.map_append, hps, ← hst]
              first | done | rfl
        · obtain rfl : i = t.rows.length := by omega
          repeat' (first
      | (apply GC_seqK; intro K hK)
      | (apply hK; clear hK K)
      | (clear hK K; apply hK; clear hK K)
      | (apply GC_region)
      | (apply GL_nil)
      | (apply thenG_normal)
      | (apply thenG_exit)
      | (apply blockG_hit)
      | (apply GC_ret)
      | (apply GC_exit)
      | (apply GC_if_false; eq_refl)
      | (apply retG2; eq_refl; eq_refl)
      | (apply GL_on; eq_refl; eq_refl)
      | (apply G_pv; eq_refl; first | exact trivial | omega)
      | (apply G_cmpF; eq_refl; eq_refl; omega))
          refine ⟨_ :: fam momE ps, ?_, ps, A9, c9, by rw [runE_fit he F], by rw [e1]; exact hps, rfl⟩
          refine Wk.trans ⟨fun w M => M.right, fun k hk => owns_append.2 (.inr hk)⟩ ?_
          exact (by repeat first | exact Wk.nil | exact Wk.refl | (apply Wk.cons; (focus ((repeat first | exact Rem.here | apply Rem.there | apply Rem.skip); done))) | apply Wk.nilv | apply Wk.last | apply Wk.drop)
    · have hnF : ¬ Fit c t := fun hf => h1 ⟨hf.pos, hf.few, hf.lo, hf.hi, hf.init⟩
      have e1 : runsM c t = [] := if_neg (by rw [runE_not he hnF]; decide)
      unfold RunR
      rw [runE_not he hnF, e1]
      repeat' (first
      | (apply G_call; eq_refl; eq_refl; (apply hrd; (repeat first | exact In.here | apply In.there | apply In.skip)); rintro _ _ (⟨he', rfl, rfl⟩ | ⟨_, p1, B1, k1, rfl, rfl⟩); (exact absurd he he'))
      | (apply GC_seqK; intro K hK)
      | (apply hK; clear hK K)
      | (apply GC_region)
      | (apply GL_nil)
      | (apply thenG_normal)
      | (apply thenG_ret)
      | (apply GC_ret)
      | (apply GC_skip)
      | (apply GC_if_true; eq_refl)
      | (apply GC_if_false; eq_refl)
      | (apply retG2; eq_refl; eq_refl)
      | (apply GL_on; eq_refl; eq_refl)
      | (apply GL_off; eq_refl; eq_refl)
      | (apply G_pv; eq_refl; first | exact trivial | omega)
      | (apply G_field; eq_refl)
      | (apply G_ld; eq_refl; (repeat first | exact In.here | apply In.there | apply In.skip); eq_refl)
      | (apply G_ldW; eq_refl; (repeat first | exact In.here | apply In.there | apply In.skip); eq_refl)
      | (apply G_cmpT; eq_refl; eq_refl; omega)
      | (apply G_cmpF; eq_refl; eq_refl; omega)
      | (apply G_cmp; eq_refl; eq_refl; all_goals intro _)
      | (apply G_len; eq_refl)
      | (apply G_box; eq_refl; eq_refl; intro _))
      all_goals first
        | exact ⟨[.vec encM 4 82 none 0 []], (by repeat first | exact Wk.nil | exact Wk.refl | (apply Wk.cons; (focus ((repeat first | exact Rem.here | apply Rem.there | apply Rem.skip); done))) | apply Wk.nilv | apply Wk.last | apply Wk.drop), [], none, 0, rfl, rfl, rfl⟩
        | (exfalso; omega)
  · have e1 : runsM c t = [] := if_neg (by rw [runE_look he]; exact he)
    unfold RunR
    rw [runE_look he, e1]
    repeat' (first
      | (apply G_call; eq_refl; eq_refl; (apply hrd; (repeat first | exact In.here | apply In.there | apply In.skip)); rintro _ _ (⟨_, rfl, rfl⟩ | ⟨he', p1, B1, k1, rfl, rfl⟩); rotate_left; (exact absurd he' he))
      | (apply GC_seqK; intro K hK)
      | (apply hK; clear hK K)
      | (apply GC_region)
      | (apply GL_nil)
      | (apply thenG_normal)
      | (apply thenG_ret)
      | (apply GC_ret)
      | (apply GC_if_true; eq_refl)
      | (apply retG2; eq_refl; eq_refl)
      | (apply GL_on; eq_refl; eq_refl)
      | (apply G_pv; eq_refl; first | exact trivial | omega)
      | (apply G_ldW; eq_refl; (repeat first | exact In.here | apply In.there | apply In.skip); eq_refl)
      | (apply G_cmpT; eq_refl; eq_refl; omega)
      | (apply G_box; eq_refl; eq_refl; intro _))
    exact ⟨[.vec encM 4 82 none 0 []], (by repeat first | exact Wk.nil | exact Wk.refl | (apply Wk.cons; (focus ((repeat first | exact Rem.here | apply Rem.there | apply Rem.skip); done))) | apply Wk.nilv | apply Wk.last | apply Wk.drop), [], none, 0, rfl, rfl, rfl⟩
end SC
end Go.Proofs.Ytkndegjodnciaaa
end
section
/- trestlelaw07: works. -/
set_option linter.unusedVariables false
set_option linter.unusedSimpArgs false
namespace Go.Proofs.Ytkndegjodnciaaa
namespace SC
open Go.Proofs
def cWk : Circ := ⟨1, [], [(2, 3, 0)], [], [2], [], [], [], [], [], []⟩
theorem cWk_sizes : sizesM cWk = 0 := by
  unfold sizesM
  rw [if_neg (by simp [cWk]), if_neg]
  simp [cWk, Circ.lens, sumW, sumL]; decide
theorem cWk_defs : definesM cWk (T0 cWk) = ((0, 0), [(0, 0), (2, 0)]) := by decide
theorem cWk_tab : tabM cWk = [(0, 0), (2, 0)] := by unfold tabM; rw [cWk_defs]
theorem cWk_uses : usesM cWk (tabM cWk) = (0, 0) := by rw [cWk_tab]; decide
theorem cWk_all : All 0 (gateB (tabM cWk) cWk) [] := ⟨.nil, fun x hx => by have := hx.rg; unfold rg at this; omega⟩
theorem cWk_look : (lookM cWk).2 = 0 := by
  have hc : cycM cWk.ands.length (gateB (tabM cWk) cWk) = -1 := cycM_eq ⟨[], cWk_all, .inl ⟨rfl, rfl⟩⟩
  unfold lookM
  rw [cWk_sizes, cWk_defs, cWk_uses, hc]
  simp [cWk, goSym, goCom]
theorem cWk_ord : ordM cWk = [] := ordM_eq cWk_all
def tWk (h1 h2 : Hdl) : Trc := ⟨[false], [(h1, []), (h2, [])], -1⟩
theorem tWk_fit (h1 h2 : Hdl) : Fit cWk (tWk h1 h2) := ⟨rfl, by simp [tWk], by simp [tWk], by simp [tWk], by simp [tWk], by simp [tWk, cWk]⟩
def mWk0 : Mom := ⟨[false], true, [], []⟩
def mWk1 : Mom := ⟨[true], true, [0], []⟩
theorem cWk_runs (h1 h2 : Hdl) : runsM cWk (tWk h1 h2) = [mWk0, mWk1] := by
  unfold runsM
  rw [if_pos (runE_fit cWk_look (tWk_fit h1 h2))]
  show [momM cWk [false] (valM cWk [false] []), momM cWk (nxtM cWk (valM cWk [false] [])) (valM cWk (nxtM cWk (valM cWk [false] [])) [])] = _
  unfold valM
  rw [cWk_ord]
  rfl
theorem cWk_sane : cWk.Sane := ⟨by simp [cWk], by simp [cWk], by simp [cWk], by simp [cWk], by simp [cWk], by simp [cWk]⟩
theorem cWk_okay : cWk.Okay := ⟨by simp [cWk, Circ.lens], by simp [cWk], (by intro x hx; simp [cWk] at hx; subst hx; simp [TriFits, fit64, fits]), by simp [cWk], by simp [cWk]⟩
theorem cWk_fits : cWk.Fits := ⟨by simp [cWk], by simp [cWk], by simp [cWk], by simp [cWk], by simp [cWk], by simp [cWk], by simp [cWk], by simp [cWk], by simp [cWk], by simp [cWk], by simp [cWk]⟩
def hWk (a b : Nat) : Hd := fun | 2 => (some ⟨a, 0, none⟩, 1) | 4 => (some ⟨b, 0, none⟩, 1) | _ => (none, 0)
theorem cWk_in {w : World} {a b : Nat} (ha : Blk w a 70 [nu 2, nu 3, nu 0]) (hb : Blk w b 3 [nu 2]) : CirIn w cWk (hWk a b) hNil :=
  ⟨⟨RowA.emp, RowA.blk (l := [(2, 3, 0)]) tlen ha, RowA.emp, RowA.blk (l := [2]) ilen hb, RowA.emp, fun k hk => absurd hk (Nat.not_lt_zero _), fun k hk => absurd hk (Nat.not_lt_zero _), RowA.emp, RowA.emp, RowA.emp, RowA.emp⟩, cWk_sane, cWk_okay, cWk_fits⟩
theorem tWk_in {w : World} {a b c d : Nat} (ha : Blk w a 4 [.bool false]) (hd : Blk w d 62 [.slice (some ⟨b, 0, none⟩) 0 0, .slice (some ⟨c, 0, none⟩) 0 0]) : TrcIn w (tWk (some ⟨b, 0, none⟩, 0) (some ⟨c, 0, none⟩, 0)) (some ⟨a, 0, none⟩, 1) (some ⟨d, 0, none⟩, 2) :=
  ⟨RowA.blk (l := [false]) (fun _ => rfl) ha, RowA.blk (l := [(((some ⟨b, 0, none⟩, 0) : Hdl), ([] : List Bool)), ((some ⟨c, 0, none⟩, 0), [])]) (fun _ => rfl) hd, (fun p hp => by simp [tWk] at hp; rcases hp with rfl | rfl <;> exact RowA.emp), (fun h => by cases h), (fun h => by cases h), (fun p hp h => by simp [tWk] at hp; rcases hp with rfl | rfl <;> cases h), (by simp [tWk]), (by simp [tWk]), (fun p hp => by simp [tWk] at hp; rcases hp with rfl | rfl <;> simp), (by simp [tWk, fits])⟩
attribute [local irreducible] WC WL WX WS WO OX Does DoesU Enters CV Pure thenQ blockQ retQ Wants retQC GC GL GS GX RdB thenG blockG retG Rd At CVN CVM
set_option maxRecDepth 100000
theorem worksSim_cv {w : World} : CVN Try.prog 48 [] w fun v N => N = [] ∧ v = .bool true := by
  have hrun : ∀ Γ a b x y z u, In Γ (.box a 70 [nu 2, nu 3, nu 0]) → In Γ (.box b 3 [nu 2]) → In Γ (.box x 4 [.bool false]) → In Γ (.box u 62 [.slice (some ⟨y, 0, none⟩) 0 0, .slice (some ⟨z, 0, none⟩) 0 0]) → ∀ w', Mem w' Γ →
      CVN Try.prog 42 [.agg (ccells cWk (hWk a b)).toArray, .agg (tcs (tWk (some ⟨y, 0, none⟩, 0) (some ⟨z, 0, none⟩, 0)) (some ⟨x, 0, none⟩, 1) (some ⟨u, 0, none⟩, 2)).toArray] w' fun v N => ∃ (p q : HMom) (A : Option Addr) (k : Nat), v = .tuple #[.slice A 2 k, nu 0] ∧ N = .vec encM 4 82 A k [(p, mWk0), (q, mWk1)] :: fam momE [(p, mWk0), (q, mWk1)] := fun Γ a b x y z u h1 h2 h3 h4 w' M => by
    refine (Run_cv (cWk_in (h1.box M) (h2.box M)) (tWk_in (c := z) (h3.box M) (h4.box M))).mono ?_
    rintro v N ⟨ps, A, k, rfl, hps, rfl⟩
    rw [cWk_runs] at hps
    match ps, hps with
    | [(p, m), (q, m')], hps =>
      simp only [List.map_cons, List.map_nil, List.cons.injEq, and_true] at hps
      obtain ⟨rfl, rfl⟩ := hps
      exact ⟨p, q, A, k, by rw [runE_fit cWk_look (tWk_fit _ _)]; rfl, rfl⟩
    | [], hps => simp at hps
    | [_], hps => simp at hps
    | _ :: _ :: _ :: _, hps => simp at hps
  refine CVN.enter 63 [0] Try.func48 rfl rfl rfl (by decide) rfl ?_
  repeat' (first
      | (apply G_cmpT; eq_refl; eq_refl; (exact rfl))
      | (apply G_ix; eq_refl; eq_refl; (first | (apply Rd.own; (repeat first | exact In.here | apply In.there | apply In.skip); infer_instance) | (apply Rd.old; (repeat first | exact In.here | apply In.there | apply In.skip); assumption) | (apply Rd.oldR; (repeat first | exact In.here | apply In.there | apply In.skip); assumption) | exact Rd.nil | assumption); eq_refl; (focus simp); (exact (show (0 : Int) < ((1 : Nat) : Int) by decide)))
      | (apply G_rd; eq_refl; (first | (apply Rd.own; (repeat first | exact In.here | apply In.there | apply In.skip); infer_instance) | (apply Rd.old; (repeat first | exact In.here | apply In.there | apply In.skip); assumption) | (apply Rd.oldR; (repeat first | exact In.here | apply In.there | apply In.skip); assumption) | exact Rd.nil | assumption); (case ih => infer_instance); (focus simp); (exact (show (0 : Int) < ((1 : Nat) : Int) by decide)); eq_refl)
      | (apply G_rdF; eq_refl; (first | (apply Rd.own; (repeat first | exact In.here | apply In.there | apply In.skip); infer_instance) | (apply Rd.old; (repeat first | exact In.here | apply In.there | apply In.skip); assumption) | (apply Rd.oldR; (repeat first | exact In.here | apply In.there | apply In.skip); assumption) | exact Rd.nil | assumption); (case ih => infer_instance); (focus simp); (focus simp); eq_refl)
      | (apply G_call; eq_refl; eq_refl; (apply hrun; (repeat first | exact In.here | apply In.there | apply In.skip); (repeat first | exact In.here | apply In.there | apply In.skip); (repeat first | exact In.here | apply In.there | apply In.skip); (repeat first | exact In.here | apply In.there | apply In.skip)); rintro _ _ ⟨p, q, A, k, rfl, rfl⟩)
      | (apply GC_seqK; intro K hK)
      | (apply hK; clear hK K)
      | (apply GC_region)
      | (apply GL_nil)
      | (apply thenG_normal)
      | (apply GC_ret)
      | (apply retG1; eq_refl)
      | (apply GL_on; eq_refl; eq_refl)
      | (apply G_pv; eq_refl; first | exact trivial | omega)
      | (apply G_fieldP; eq_refl)
      | (apply G_ldW; eq_refl; (repeat first | exact In.here | apply In.there | apply In.skip); eq_refl)
      | (apply G_len; eq_refl)
      | (apply G_ix; eq_refl; eq_refl; (first | (apply Rd.own; (repeat first | exact In.here | apply In.there | apply In.skip); infer_instance) | (apply Rd.old; (repeat first | exact In.here | apply In.there | apply In.skip); assumption) | (apply Rd.oldR; (repeat first | exact In.here | apply In.there | apply In.skip); assumption) | exact Rd.nil | assumption); (first | eq_refl | omega); omega; omega)
      | (apply G_alloc; eq_refl; intro _)
      | (apply G_stW; (first | exact wr_p | kernel_rfl); eq_refl; eq_refl; eq_refl; eq_refl; (repeat first | exact Upd.here | apply Upd.there | apply Upd.skip); eq_refl)
      | (apply GX_pure; apply build70_0_1 <;> eq_refl)
      | (apply GX_pure; apply build51_0_2_4 <;> eq_refl)
      | (apply GX_pure; apply build73_0_1_2 <;> eq_refl)
      | (apply G_new (fun b => .slice (some ⟨b, 0, none⟩) 1 1); eq_refl; (intro _; apply buildS46_1 <;> eq_refl); intro _)
      | (apply G_new (fun b => .slice (some ⟨b, 0, none⟩) 1 1); eq_refl; (intro _; apply buildS45_1 <;> eq_refl); intro _)
      | (apply G_new (fun b => .slice (some ⟨b, 0, none⟩) 1 1); eq_refl; (intro _; apply buildS62_1 <;> eq_refl); intro _)
      | (apply G_new (fun b => .slice (some ⟨b, 0, none⟩) 0 0); eq_refl; (intro _; apply buildS62_0); intro _)
      | (apply G_new (fun b => .slice (some ⟨b, 0, none⟩) 2 2); eq_refl; (intro _; apply buildS71_2 <;> eq_refl); intro _))
  exact ⟨[], (by repeat first | exact Wk.nil | exact Wk.refl | (apply Wk.cons; (focus ((repeat first | exact Rem.here | apply Rem.there | apply Rem.skip); done))) | apply Wk.nilv | apply Wk.last | apply Wk.drop), rfl, rfl⟩
end SC
end Go.Proofs.Ytkndegjodnciaaa
end
section
/- ShapeChecks: the walk. -/
set_option linter.unusedVariables false
set_option linter.unusedSimpArgs false
namespace Go.Proofs.Ytkndegjodnciaaa
namespace SC
open Go.Proofs
theorem Circ.Fits.lens1 {c : Circ} (hf : c.Fits) : ∀ n ∈ c.lens, n + 1 ≤ 9223372036854775807 := by
  intro n hn
  have h1 := hf.inputs
  have h2 := hf.latches
  have h3 := hf.outputs
  have h4 := hf.bads
  have h5 := hf.constraints
  have h6 := hf.justice
  have h7 := hf.fairness
  have h8 := hf.ands
  have h9 := hf.symbols
  have h10 := hf.comments
  simp only [Circ.lens, List.mem_cons, List.not_mem_nil, or_false] at hn
  rcases hn with rfl | rfl | rfl | rfl | rfl | rfl | rfl | rfl | rfl | rfl <;> omega
attribute [local irreducible] WC WL WX WS WO OX Does DoesU Enters CV Pure thenQ blockQ retQ Wants retQC
set_option maxRecDepth 100000
end SC
end Go.Proofs.Ytkndegjodnciaaa
end
section
/- trestlelaw07: SimStarts, SimSteps: the walks. -/
set_option linter.unusedVariables false
set_option linter.unusedSimpArgs false
namespace Go.Proofs.Ytkndegjodnciaaa
namespace SC
open Go.Proofs
/-- A lent circuit, as an entry. -/
def lentX (base : Nat) (c : Circ) (h js : Hd) : EntX where
  own := fun k => ∃ i, (lentRow c h js i).v.ownBlock = some k
  ok := fun w => CirLent w base c h js
  lt := fun w H k ⟨i, hi⟩ => (World.ownsRow.lt (H i) k hi).2
  keep := fun w w' S H hc hn => fun i => own_chg (H i) hc fun k hk => hn k ⟨i, hk⟩
def LendR (c : Circ) (v : Value) (N : Mm) : Prop := ∃ base h' js', v = .agg (ccells c h').toArray ∧ N = [.any (lentX base c h' js')]
theorem LendG {w : World} {c : Circ} {h js : Hd} (H : CirAt w c h js) (hf : c.Fits1) (hn : Nils h js) : CVN Try.prog 23 [.agg (ccells c h).toArray] w (LendR c) := CV.mono (lendCircuit_cv H hf hn) fun v w' ⟨h', js', e1, e2, hc⟩ =>
  ⟨[.any (lentX w.heap.size c h' js')], Mem.join (.one e2) (.one hc) fun k ⟨E, hE, h1⟩ ⟨F, hF, h2⟩ => by
    simp only [List.mem_singleton] at hE hF
    subst hE hF
    obtain ⟨i, hi⟩ := h1
    have := (World.ownsRow.lt (e2 i) k hi).1
    have := h2.1
    omega, w.heap.size, h', js', e1, rfl⟩
/-- What comes in: a circuit, with its reach. -/
structure CirGot (w : World) (c : Circ) (h js : Hd) : Prop extends CirIn w c h js where
  fits1 : c.Fits1
  nils : Nils h js
theorem CirGot.chg {w w' : World} {c : Circ} {h js : Hd} (H : CirGot w c h js) (hc : Chg w w' none_) : CirGot w' c h js := ⟨H.toCirIn.chg hc, H.fits1, H.nils⟩
theorem In.lent {Γ : Mm} {w w0 : World} {base : Nat} {c : Circ} {h js h' js' : Hd} (H : CirIn w0 c h js) (hi : In Γ (.any (lentX base c h' js'))) (M : Mem w Γ) : CirIn w c h' js' := ⟨CirLent.at (hi.ok M), H.sane, H.okay, H.fits⟩
theorem KeptG {Γ : Mm} {w0 w : World} {base : Nat} {c : Circ} {h js h' js' : Hd} (H : CirGot w0 c h js) (hi : In Γ (.any (lentX base c h' js'))) (ho : In Γ (.old w0 none_)) (M : Mem w Γ) : CVN Try.prog 30 [.agg (ccells c h').toArray, .agg (ccells c h).toArray] w fun v N => N = [] ∧ v = .bool true :=
  CVN.of (keptCircuit_cv (hi.ok M) (H.at_.chg (ho.old M)) H.okay H.fits1.lens1) fun v w' h => ⟨h.2, h.1⟩
attribute [local irreducible] WC WL WX WS WO OX Does DoesU Enters CV Pure thenQ blockQ retQ Wants retQC GC GL GS GX RdB thenG blockG retG Rd At gt CVN CVM
set_option maxRecDepth 100000
end SC
end Go.Proofs.Ytkndegjodnciaaa
end
section
/- trestlelaw07: SimSteps: the walk. -/
set_option linter.unusedVariables false
set_option linter.unusedSimpArgs false
namespace Go.Proofs.Ytkndegjodnciaaa
namespace SC
open Go.Proofs
theorem G_callM2 {P : Program} {n : Nat} {all : List Oper} {K : Env → Mm → Prop} {m : Md} {d : Option Tmp} {e : Env} {Γ Γ' : Mm} {ty : TypeId} {f : FuncId} [F : Go.Proofs.Ytkndegjodnciaaa.SC.Fn P f] {args : Array Operand} {ats : Array TypeId} {vs : List Value} {C : Mm} {R : Value → Mm → Prop} (hm : wrOk all m = true) (h : evs e args.toList = some vs) (hc : ∀ w, Mem w C → CVM P f vs w C R) (hC : Rems Γ C Γ') (hr : ∀ v N, R v N → GN P n all K m (push d v e) (N ++ Γ')) :
    GX P n all K m d (.call { callee := .value (.func f), args := args, argTypes := ats }) ty e Γ :=
  G_callM hm h hC (fun w M => hc w (Mem.takes hC M).left) hr
attribute [local irreducible] WC WL WX WS WO OX Does DoesU Enters CV Pure thenQ blockQ retQ Wants retQC GC GL GS GX RdB thenG blockG retG Rd At gt CVN CVM
set_option maxRecDepth 100000
end SC
end Go.Proofs.Ytkndegjodnciaaa
end
section
/- Lists of bools that come in. -/
set_option linter.unusedVariables false
set_option linter.unusedSimpArgs false
namespace Go.Proofs.Ytkndegjodnciaaa
namespace SC
open Go.Proofs
set_option maxRecDepth 100000
section
variable {H : Type} {enc : TypeId × Value → H} {W : World} {base : Nat} {spare : Nat → Bool} {held : Bool}
theorem bytes4 : Try.prog.bytesOf 4 = 1 := by kernel_rfl
theorem openBoolS {fuel : Nat} {cs : List Value} {x : DataW H × List MemPlace} (h : DataW.trod enc Try.prog W base spare held fuel 4 cs = some x) : ∃ a, booc a = cs ∧ True := by
  obtain ⟨b, h1, h2⟩ := DataW.trod_bool Try.underlying4 h
  exact ⟨b, h1.symm, trivial⟩
/-- A list of bools that comes in. -/
theorem openBoolsF {fuel : Nat} {cs : List Value} {x : DataW H × List MemPlace} (h : DataW.trod enc Try.prog W base spare held fuel 62 cs = some x) : ∃ (A : Option Addr) (cp : Nat) (l : List Bool), cs = [.slice A l.length cp] ∧ RowA W booc 1 A l ∧ (A = none → cp = 0) ∧ (∀ R, (∀ n ∈ x.1.weights Try.prog 62, n ≤ R) → l.length ≤ R) := by
  obtain ⟨A, cp, l, e, r, _, _, z, w⟩ := openRowS booc (fun _ _ => True) Try.underlying62 (by kernel_rfl) (fun _ => rfl) (fun _ _ _ h => openBoolS h) h
  refine ⟨A, cp, l, e, r, z, fun R hR => ?_⟩
  have := w R hR
  rw [bytes4] at this
  omega
end
end SC
end Go.Proofs.Ytkndegjodnciaaa
end
section
/- What is so of the values of a right circuit; trestlelaw07: lit. -/
set_option linter.unusedVariables false
set_option linter.unusedSimpArgs false
namespace Go.Proofs.Ytkndegjodnciaaa
namespace SC
open Go.Proofs
/-! ### a list that is written from the left -/
section
variable {g : Nat → Nat} {h : List Bool → Nat → Bool} {v : List Bool}
def wrF (g : Nat → Nat) (h : List Bool → Nat → Bool) (v : List Bool) (i : Nat) : List Bool := (List.range i).foldl (fun v k => v.set (g k) (h v k)) v
end
/-- What the values are. -/
structure ValOk (c : Circ) (s r v : List Bool) : Prop where
  len : v.length = (c.max + 1).toNat
  zero : gt v 0 = false
  inp : ∀ i : Nat, i < c.inputs.length → gt v (gt c.inputs (i : Int) / 2) = gt r (i : Int)
  lat : ∀ i : Nat, i < c.latches.length → gt v ((gt c.latches (i : Int)).1 / 2) = gt s (i : Int)
  and : ∀ i : Nat, i < c.ands.length → gt v ((gt c.ands (i : Int)).1 / 2) = (lv v (gt c.ands (i : Int)).2.1 && lv v (gt c.ands (i : Int)).2.2)
attribute [local irreducible] WC WL WX WS WO OX Does DoesU Enters CV Pure thenQ blockQ retQ Wants retQC GC GL GS GX RdB thenG blockG retG Rd At gt CVN CVM
set_option maxRecDepth 100000
end SC
end Go.Proofs.Ytkndegjodnciaaa
end
section
/- trestlelaw07: SimGates: the walk. -/
set_option linter.unusedVariables false
set_option linter.unusedSimpArgs false
namespace Go.Proofs.Ytkndegjodnciaaa
namespace SC
open Go.Proofs
attribute [local irreducible] WC WL WX WS WO OX Does DoesU Enters CV Pure thenQ blockQ retQ Wants retQC GC GL GS GX RdB thenG blockG retG Rd At gt CVN CVM
set_option maxRecDepth 100000
end SC
end Go.Proofs.Ytkndegjodnciaaa
end
section
/- trestlebook: SameInts, SpoilInts, SameTrace; trestlelaw07: same. -/
set_option linter.unusedVariables false
set_option linter.unusedSimpArgs false
namespace Go.Proofs.Ytkndegjodnciaaa
namespace SC
open Go.Proofs Go.Maps
set_option maxRecDepth 100000
theorem sameIntsG {w : World} {A B : Option Addr} {c d : Nat} {l : List Int} (R : RowA w icell 1 A l) (R' : RowA w icell 1 B l) (hl : l.length ≤ 9223372036854775807) : CVN Try.prog 28 [.slice A l.length c, .slice B l.length d] w fun v N => N = [] ∧ v = .bool true :=
  CVN.of (sameInts_cv R R' hl hl) fun v w' h => ⟨h.2, by rw [h.1, decide_eq_true rfl]⟩
theorem spoilIntsG {w : World} {A : Option Addr} {c : Nat} {l : List Int} {mark : Int} (M : Mem w [.vec icell 1 3 A c l]) : CVM Try.prog 29 [.slice A l.length c, nu mark] w [.vec icell 1 3 A c l] fun v N => N = [] :=
  CV.mono (spoil_cv (mark := mark) ((In.here (E := .vec icell 1 3 A c l) (Γ := [])).ok M)) fun v w' h => ⟨[], .one (h.mono fun k hk => owns_cons.2 (.inl hk)), rfl⟩
/-! ### spots -/
theorem wide138 : (match Try.prog.underlying 138 with | some (.array _ _) | some (.struct _) => true | _ => false) = true := by rw [Try.underlying138]
theorem formed138 {a b : Value} : (Value.agg #[a, b]).formed Try.prog 138 = true := by
  have : Try.prog.cellsOf 138 = 2 := by kernel_rfl
  simp [Value.formed, Try.underlying138, this]
theorem key138 {a b : Int} (ha : fits a) (hb : fits b) : keyOf Try.prog 138 (.agg #[.int .i64 a, .int .i64 b]) = some (.string (keyBytes [.int .i64 a, .int .i64 b])) := by
  have h1 : Try.prog.keyType 138 = true := by kernel_rfl
  have h2 : Try.prog.cellsOf 138 = 2 := by kernel_rfl
  have h3 : Try.prog.cellsOf 3 = 1 := by kernel_rfl
  have h4 : ∃ k, Try.prog.types.size = k + 1 := ⟨Try.prog.types.size - 1, by have : 0 < Try.prog.types.size := of_decide_eq_true (by kernel_rfl); omega⟩
  obtain ⟨k, hk⟩ := h4
  unfold keyOf
  rw [Try.underlying138]
  simp only [h1, formed138, Bool.and_self, if_true]
  rw [hk]
  simp [Program.keyLits, Try.underlying138, Try.underlying3, h2, h3, Value.cells, wf_of_fits ha, wf_of_fits hb]
theorem run_same138 {a b : Int} (ha : fits a) (hb : fits b) (w : World) : ∃ r, (Op.equal 138 (.agg #[.int .i64 a, .int .i64 b]) (.agg #[.int .i64 a, .int .i64 b])).run Try.prog w = .ok r w ∧ (r = true ↔ True) := by
  obtain ⟨r, h2, h3⟩ := run_equal_deep (P := Try.prog) w (m := 2) (by decide) (k := 138) (by kernel_rfl) wide138 (key138 ha hb) (key138 ha hb)
  exact ⟨r, h2, h3.trans ⟨fun _ => trivial, fun _ => rfl⟩⟩
theorem G_neqSp {n : Nat} {all : List Oper} {K : Env → Mm → Prop} {m : Md} {e : Env} {Γ : Mm} {d : Option Tmp} {ty : TypeId} {x y : Operand} {p : Int × Int} (h : ev e x = some (.agg (spotc p).toArray)) (h1 : ev e y = some (.agg (spotc p).toArray)) (hf : fits p.1 ∧ fits p.2) (hr : GN Try.prog n all K m (push d (.bool false) e) Γ) :
    GX Try.prog n all K m d (.binOp .neq 138 x y 138) ty e Γ :=
  GX_pure ((p_neqV (C := True) (by kernel_rfl) (run_same138 hf.1 hf.2) h h1).2 trivial) hr
/-! ### traces -/
structure TrcEq (t t' : Trc) : Prop where
  init : t.init = t'.init
  loop : t.loop = t'.loop
  rows : t.rows.map (·.2) = t'.rows.map (·.2)
theorem gt_snd {α β γ : Type} [Inhabited α] [Inhabited β] [Inhabited γ] {ps : List (α × β)} {qs : List (γ × β)} (h : ps.map (·.2) = qs.map (·.2)) {i : Nat} (hi : i < ps.length) : (gt ps (i : Int)).2 = (gt qs (i : Int)).2 := by
  have hl := congrArg List.length h
  simp only [List.length_map] at hl
  rw [gt_nat hi, gt_nat (by omega)]
  have := congrArg (fun l => l[i]?) h
  simp only [List.getElem?_map, List.getElem?_eq_getElem hi, List.getElem?_eq_getElem (show i < qs.length by omega), Option.map_some, Option.some.injEq] at this
  exact this
/-! ### the moments of a run, in memory -/
structure MomsIn (w : World) (A : Option Addr) (ps : List (HMom × Mom)) : Prop where
  row : RowA w encM 4 A ps
  st : ∀ p ∈ ps, RowA w booc 1 p.1.1.1 p.2.state
  bd : ∀ p ∈ ps, RowA w icell 1 p.1.2.1.1 p.2.bads
  fr : ∀ p ∈ ps, RowA w spotc 2 p.1.2.2.1 p.2.fair
  len : ps.length ≤ 9223372036854775807
  le : ∀ p ∈ ps, p.2.state.length ≤ 9223372036854775807 ∧ p.2.bads.length ≤ 9223372036854775807 ∧ p.2.fair.length ≤ 9223372036854775807
theorem vec_len {α : Type} {enc : α → List Value} {sz : Nat} {w : World} {t : TypeId} {A : Option Addr} {c : Nat} {l : List α} (h : w.ownsRow 0 t sz (.slice A l.length c) l.length (l.flatMap enc)) : l.length ≤ 9223372036854775807 := by
  rcases h.2 with ⟨_, h2⟩ | ⟨g, cap, cur, _, _, _, hc, hm, _⟩
  · omega
  · simp only [maxLen] at hm
    omega
theorem MomsIn.of {Γ : Mm} {w : World} {A : Option Addr} {k : Nat} {ps : List (HMom × Mom)} (hi : In Γ (.vec encM 4 82 A k ps)) (hf : ∀ E ∈ fam momE ps, In Γ E) (M : Mem w Γ) : MomsIn w A ps := by
  have h1 : ∀ p ∈ ps, In Γ (.vec booc 1 4 p.1.1.1 p.1.1.2 p.2.state) := fun p hp => hf _ (fam_mem hp (by unfold momE; simp))
  have h2 : ∀ p ∈ ps, In Γ (.vec icell 1 3 p.1.2.1.1 p.1.2.1.2 p.2.bads) := fun p hp => hf _ (fam_mem hp (by unfold momE; simp))
  have h3 : ∀ p ∈ ps, In Γ (.vec spotc 2 138 p.1.2.2.1 p.1.2.2.2 p.2.fair) := fun p hp => hf _ (fam_mem hp (by unfold momE; simp))
  exact ⟨hi.row M, fun p hp => (h1 p hp).row M, fun p hp => (h2 p hp).row M, fun p hp => (h3 p hp).row M, vec_len (hi.ok M), fun p hp => ⟨vec_len ((h1 p hp).ok M), vec_len ((h2 p hp).ok M), vec_len ((h3 p hp).ok M)⟩⟩
attribute [local irreducible] WC WL WX WS WO OX Does DoesU Enters CV Pure thenQ blockQ retQ Wants retQC GC GL GS GX RdB thenG blockG retG Rd At gt CVN CVM
theorem sameTrace_cv {w : World} {t t' : Trc} {a b a' b' : Hdl} (H : TrcIn w t a b) (H' : TrcIn w t' a' b') (E : TrcEq t t') : CVN Try.prog 47 [.agg (tcs t a b).toArray, .agg (tcs t' a' b').toArray] w fun v N => N = [] ∧ v = .bool true := by
  have e1 := E.init
  have e2 := E.loop
  have e3 := congrArg List.length E.rows
  simp only [List.length_map] at e3
  have hR := H.rows
  have hR' := H'.rows
  have hlr := H.lr
  have hI := H.init
  have hI' := H'.init
  have hli := H.li
  have hb0 : ∀ Γ, In Γ (.old w none_) → ∀ w', Mem w' Γ → CVN Try.prog 46 [.slice a.1 t.init.length a.2, .slice a'.1 t'.init.length a'.2] w' fun v N => N = [] ∧ v = .bool true := fun Γ hi w' M => (sameBools_cv (hI.chg (hi.old M)) (hI'.chg (hi.old M)) (by omega) (by rw [← e1]; omega)).mono fun v N ⟨e1', e2'⟩ => ⟨e1', by rw [e2', decide_eq_true e1]⟩
  refine CVN.enter 47 [4] Try.func47 rfl rfl rfl (by decide) rfl ?_
  repeat' (first
      | (apply G_call; eq_refl; eq_refl; (apply hb0; (repeat first | exact In.here | apply In.there | apply In.skip)); rintro _ _ ⟨rfl, rfl⟩)
      | (apply GC_seqK; intro K hK)
      | (apply hK; clear hK K)
      | (apply GC_block)
      | (apply GC_region)
      | (apply GL_nil)
      | (apply thenG_normal)
      | (apply GC_skip)
      | (apply GC_if_false; eq_refl)
      | (apply GL_on; eq_refl; eq_refl)
      | (apply G_pv; eq_refl; first | exact trivial | omega)
      | (apply G_field; eq_refl)
      | (apply G_ld; eq_refl; (repeat first | exact In.here | apply In.there | apply In.skip); eq_refl)
      | (apply G_cmpF; eq_refl; eq_refl; omega)
      | (apply G_len; eq_refl)
      | (apply G_box; eq_refl; eq_refl; intro _))
  rename_i b2 b3
  refine GC_loopK [2, 3] (fun i : Nat => [(5, nu i)]) (fun _ => [.box b3 73 (tcs t' a' b'), .box b2 73 (tcs t a b), .old w none_]) (fun i => i ≤ t.rows.length) (fun i => t.rows.length - i) 0 (by repeat first | exact Pick.nil | (apply Pick.cons; eq_refl)) (by repeat first | exact trivial | refine ⟨rfl, ?_⟩) (by repeat first | exact Wk.nil | exact Wk.refl | (apply Wk.cons; (focus ((repeat first | exact Rem.here | apply Rem.there | apply Rem.skip); done))) | apply Wk.nilv | apply Wk.last | apply Wk.drop) (Nat.zero_le _) ?_
  intro i hi
  rcases Nat.lt_or_ge i t.rows.length with hlt | hge
  · have hm := gt_mem (l := t.rows) (i := (i : Int)) (by omega) (by omega)
    have hm' := gt_mem (l := t'.rows) (i := (i : Int)) (by omega) (by omega)
    have es := gt_snd E.rows hlt
    have hle := H.le _ hm
    have hb1 : ∀ Γ, In Γ (.old w none_) → ∀ w', Mem w' Γ → CVN Try.prog 46 [.slice (gt t.rows (i : Int)).1.1 (gt t.rows (i : Int)).2.length (gt t.rows (i : Int)).1.2, .slice (gt t'.rows (i : Int)).1.1 (gt t'.rows (i : Int)).2.length (gt t'.rows (i : Int)).1.2] w' fun v N => N = [] ∧ v = .bool true := fun Γ hi w' M => (sameBools_cv ((H.each _ hm).chg (hi.old M)) ((H'.each _ hm').chg (hi.old M)) (by omega) (by rw [← es]; omega)).mono fun v N ⟨e1', e2'⟩ => ⟨e1', by rw [e2', decide_eq_true es]⟩
    repeat' (first
      | (apply G_call; eq_refl; eq_refl; (apply hb1; (repeat first | exact In.here | apply In.there | apply In.skip)); rintro _ _ ⟨rfl, rfl⟩)
      | (apply GC_seqK; intro K hK)
      | (apply hK; clear hK K)
      | (apply GC_block)
      | (apply GC_region)
      | (apply GL_nil)
      | (apply thenG_normal)
      | (apply blockG_normal)
      | (apply GC_skip)
      | (apply GC_if_true; eq_refl)
      | (apply GC_if_false; eq_refl)
      | (apply GL_on; eq_refl; eq_refl)
      | (refine GC_draws (id := 6) [.q 0, .q 1, .q 2, .q 3, .q 4, .q 5, .q 6, .q 7, .q 8, .q 9, .c 10, .q 11] mixed (by kernel_rfl) (by kernel_rfl) ?_)
      | (apply GS_nil)
      | (apply GS_qon; eq_refl; eq_refl; eq_refl; eq_refl)
      | (apply GS_con; eq_refl; eq_refl; eq_refl; eq_refl)
      | (apply G_pv; eq_refl; first | exact trivial | omega)
      | (apply G_field; eq_refl)
      | (apply G_ld; eq_refl; (repeat first | exact In.here | apply In.there | apply In.skip); eq_refl)
      | (apply G_rd; eq_refl; (first | (apply Rd.own; (repeat first | exact In.here | apply In.there | apply In.skip); infer_instance) | (apply Rd.old; (repeat first | exact In.here | apply In.there | apply In.skip); assumption) | (apply Rd.oldR; (repeat first | exact In.here | apply In.there | apply In.skip); assumption) | exact Rd.nil | assumption); (case ih => infer_instance); omega; omega; eq_refl)
      | (apply G_cmpT; eq_refl; eq_refl; omega)
      | (apply G_len; eq_refl)
      | (apply G_ix; eq_refl; eq_refl; (first | (apply Rd.own; (repeat first | exact In.here | apply In.there | apply In.skip); infer_instance) | (apply Rd.old; (repeat first | exact In.here | apply In.there | apply In.skip); assumption) | (apply Rd.oldR; (repeat first | exact In.here | apply In.there | apply In.skip); assumption) | exact Rd.nil | assumption); (first | eq_refl | omega); omega; omega))
    exact ⟨i + 1, (by repeat first | exact trivial | refine ⟨rfl, ?_⟩), (by repeat first | exact Wk.nil | exact Wk.refl | (apply Wk.cons; (focus ((repeat first | exact Rem.here | apply Rem.there | apply Rem.skip); done))) | apply Wk.nilv | apply Wk.last | apply Wk.drop), hlt, by omega⟩
  · repeat' (first
      | (apply GC_seqK; intro K hK)
      | (apply hK; clear hK K)
      | (clear hK K; apply hK; clear hK K)
      | (apply GC_region)
      | (apply GL_nil)
      | (apply thenG_normal)
      | (apply thenG_exit)
      | (apply blockG_hit)
      | (apply GC_ret)
      | (apply GC_exit)
      | (apply GC_if_false; eq_refl)
      | (apply retG1; eq_refl)
      | (apply GL_on; eq_refl; eq_refl)
      | (apply G_pv; eq_refl; first | exact trivial | omega)
      | (apply G_field; eq_refl)
      | (apply G_ld; eq_refl; (repeat first | exact In.here | apply In.there | apply In.skip); eq_refl)
      | (apply G_cmpF; eq_refl; eq_refl; omega)
      | (apply G_len; eq_refl))
    exact ⟨[], (by repeat first | exact Wk.nil | exact Wk.refl | (apply Wk.cons; (focus ((repeat first | exact Rem.here | apply Rem.there | apply Rem.skip); done))) | apply Wk.nilv | apply Wk.last | apply Wk.drop), rfl, rfl⟩
theorem same_cv {w : World} {A B : Option Addr} {k k2 : Nat} {ps qs : List (HMom × Mom)} (H : MomsIn w A ps) (H' : MomsIn w B qs) (E : ps.map (·.2) = qs.map (·.2)) (hf : ∀ p ∈ ps, ∀ x ∈ p.2.fair, fits x.1 ∧ fits x.2) : CVN Try.prog 44 [.slice A ps.length k, .slice B qs.length k2] w fun v N => N = [] ∧ v = .bool true := by
  have e3 := congrArg List.length E
  simp only [List.length_map] at e3
  have hR := H.row
  have hR' := H'.row
  have hlr := H.len
  refine CVN.enter 99 [4] Try.func44 rfl rfl rfl (by decide) rfl ?_
  repeat' (first
      | (apply GC_seqK; intro K hK)
      | (apply hK; clear hK K)
      | (apply GC_block)
      | (apply GC_region)
      | (apply GL_nil)
      | (apply thenG_normal)
      | (apply GC_skip)
      | (apply GC_if_false; eq_refl)
      | (apply GL_on; eq_refl; eq_refl)
      | (apply G_pv; eq_refl; first | exact trivial | omega)
      | (apply G_cmpF; eq_refl; eq_refl; omega)
      | (apply G_len; eq_refl))
  refine GC_loopK [0, 1] (fun i : Nat => [(5, nu i)]) (fun _ => [.old w none_]) (fun i => i ≤ ps.length) (fun i => ps.length - i) 0 (by repeat first | exact Pick.nil | (apply Pick.cons; eq_refl)) (by repeat first | exact trivial | refine ⟨rfl, ?_⟩) (by repeat first | exact Wk.nil | exact Wk.refl | (apply Wk.cons; (focus ((repeat first | exact Rem.here | apply Rem.there | apply Rem.skip); done))) | apply Wk.nilv | apply Wk.last | apply Wk.drop) (Nat.zero_le _) ?_
  intro i hi
  rcases Nat.lt_or_ge i ps.length with hlt | hge
  · have hm := gt_mem (l := ps) (i := (i : Int)) (by omega) (by omega)
    have hm' := gt_mem (l := qs) (i := (i : Int)) (by omega) (by omega)
    have es := gt_snd E hlt
    have s1 := H.st _ hm
    have s2 := H'.st _ hm'
    have b1 := H.bd _ hm
    have b2 := H'.bd _ hm'
    have f1 := H.fr _ hm
    have f2 := H'.fr _ hm'
    obtain ⟨l1, l2, l3⟩ := H.le _ hm
    have hft := hf _ hm
    clear hm hm'
    generalize hx : gt ps (i : Int) = x at *
    generalize hy : gt qs (i : Int) = y at *
    obtain ⟨x1, m⟩ := x
    obtain ⟨y1, m'⟩ := y
    simp only at es s1 s2 b1 b2 f1 f2 l1 l2 l3 hft
    subst es
    obtain ⟨st, ho, bd, fr⟩ := m
    simp only at s1 s2 b1 b2 f1 f2 l1 l2 l3 hft
    have hb0 : ∀ Γ, In Γ (.old w none_) → ∀ w', Mem w' Γ → CVN Try.prog 46 [.slice x1.1.1 st.length x1.1.2, .slice y1.1.1 st.length y1.1.2] w' fun v N => N = [] ∧ v = .bool true := fun Γ hi w' M => (sameBools_cv (s1.chg (hi.old M)) (s2.chg (hi.old M)) (by omega) (by omega)).mono fun v N ⟨e1', e2'⟩ => ⟨e1', by rw [e2', decide_eq_true rfl]⟩
    have hb1 : ∀ Γ, In Γ (.old w none_) → ∀ w', Mem w' Γ → CVN Try.prog 28 [.slice x1.2.1.1 bd.length x1.2.1.2, .slice y1.2.1.1 bd.length y1.2.1.2] w' fun v N => N = [] ∧ v = .bool true := fun Γ hi w' M => sameIntsG (b1.chg (hi.old M)) (b2.chg (hi.old M)) (by omega)
    cases ho
    all_goals
      repeat' (first
      | (apply G_call; eq_refl; eq_refl; (apply hb0; (repeat first | exact In.here | apply In.there | apply In.skip)); rintro _ _ ⟨rfl, rfl⟩)
      | (apply G_call; eq_refl; eq_refl; (apply hb1; (repeat first | exact In.here | apply In.there | apply In.skip)); rintro _ _ ⟨rfl, rfl⟩)
      | (apply G_rdF; eq_refl; (apply Rd.old; (repeat first | exact In.here | apply In.there | apply In.skip); assumption); (case ih => infer_instance); omega; omega; (first | (rw [hx]; dsimp only [encM]; eq_refl) | (rw [hy]; dsimp only [encM]; eq_refl)))
      | (apply GC_seqK; intro K hK)
      | (apply hK; clear hK K)
      | (apply GC_block)
      | (apply GC_region)
      | (apply GL_nil)
      | (apply thenG_normal)
      | (apply GC_skip)
      | (apply GC_if_true; eq_refl)
      | (apply GC_if_false; eq_refl)
      | (apply GL_on; eq_refl; eq_refl)
      | (refine GC_draws (id := 6) [.q 0, .q 1, .q 2, .q 3, .q 4, .q 5, .q 6, .q 7, .q 8, .q 9, .c 10, .q 11, .q 12, .q 13, .q 14, .q 15, .q 16, .q 17, .q 18, .q 19, .q 20, .q 21, .q 22, .q 23, .q 24, .q 25, .q 26, .q 27, .q 28, .q 29, .q 30, .q 31, .q 32, .q 33, .q 34, .q 35, .c 36, .q 37, .q 38, .q 39, .q 40, .q 41, .q 42, .q 43, .q 44, .q 45, .q 46, .q 47, .q 48, .q 49, .q 50, .q 51, .q 52, .q 53] mixed (by kernel_rfl) (by kernel_rfl) ?_)
      | (apply GS_nil)
      | (apply GS_qon; eq_refl; eq_refl; eq_refl; eq_refl)
      | (apply GS_con; eq_refl; eq_refl; eq_refl; eq_refl)
      | (apply G_pv; eq_refl; first | exact trivial | omega)
      | (apply G_fieldP; eq_refl)
      | (apply G_cmpT; eq_refl; eq_refl; omega)
      | (apply G_cmpF; eq_refl; eq_refl; omega)
      | (apply G_len; eq_refl)
      | (apply G_ix; eq_refl; eq_refl; (first | (apply Rd.own; (repeat first | exact In.here | apply In.there | apply In.skip); infer_instance) | (apply Rd.old; (repeat first | exact In.here | apply In.there | apply In.skip); assumption) | (apply Rd.oldR; (repeat first | exact In.here | apply In.there | apply In.skip); assumption) | exact Rd.nil | assumption); (first | eq_refl | omega); omega; omega)
      | (apply G_neqB; eq_refl; eq_refl))
      refine GC_loopK [0, 1, 5] (fun j : Nat => [(6, nu j)]) (fun _ => [.old w none_]) (fun j => j ≤ fr.length) (fun j => fr.length - j) 0 (by repeat first | exact Pick.nil | (apply Pick.cons; eq_refl)) (by repeat first | exact trivial | refine ⟨rfl, ?_⟩) (by repeat first | exact Wk.nil | exact Wk.refl | (apply Wk.cons; (focus ((repeat first | exact Rem.here | apply Rem.there | apply Rem.skip); done))) | apply Wk.nilv | apply Wk.last | apply Wk.drop) (Nat.zero_le _) ?_
      intro j hj
      rcases Nat.lt_or_ge j fr.length with hltj | hgej
      · have hfj := hft _ (gt_mem (l := fr) (i := (j : Int)) (by omega) (by omega))
        repeat' (first
      | (apply G_rdF; eq_refl; (apply Rd.old; (repeat first | exact In.here | apply In.there | apply In.skip); assumption); (case ih => infer_instance); omega; omega; (first | (rw [hx]; dsimp only [encM]; eq_refl) | (rw [hy]; dsimp only [encM]; eq_refl)))
      | (apply G_neqSp; eq_refl; eq_refl; exact hfj)
      | (apply GC_seqK; intro K hK)
      | (apply hK; clear hK K)
      | (apply GC_block)
      | (apply GC_region)
      | (apply GL_nil)
      | (apply thenG_normal)
      | (apply blockG_normal)
      | (apply GC_skip)
      | (apply GC_if_true; eq_refl)
      | (apply GC_if_false; eq_refl)
      | (apply GL_on; eq_refl; eq_refl)
      | (refine GC_draws (id := 11) [.q 0, .q 1, .q 2, .q 3, .q 4, .q 5, .q 6, .q 7, .q 8, .q 9, .q 10, .q 11, .q 12, .q 13, .q 14, .q 15, .q 16] mixed (by kernel_rfl) (by kernel_rfl) ?_)
      | (apply GS_nil)
      | (apply GS_qon; eq_refl; eq_refl; eq_refl; eq_refl)
      | (apply G_pv; eq_refl; first | exact trivial | omega)
      | (apply G_fieldP; eq_refl)
      | (apply G_rdW; eq_refl; (first | (apply Rd.own; (repeat first | exact In.here | apply In.there | apply In.skip); infer_instance) | (apply Rd.old; (repeat first | exact In.here | apply In.there | apply In.skip); assumption) | (apply Rd.oldR; (repeat first | exact In.here | apply In.there | apply In.skip); assumption) | exact Rd.nil | assumption); infer_instance; (case ih => infer_instance); omega; omega)
      | (apply G_cmpT; eq_refl; eq_refl; omega)
      | (apply G_len; eq_refl)
      | (apply G_ix; eq_refl; eq_refl; (first | (apply Rd.own; (repeat first | exact In.here | apply In.there | apply In.skip); infer_instance) | (apply Rd.old; (repeat first | exact In.here | apply In.there | apply In.skip); assumption) | (apply Rd.oldR; (repeat first | exact In.here | apply In.there | apply In.skip); assumption) | exact Rd.nil | assumption); (first | eq_refl | omega); omega; omega))
        exact ⟨j + 1, (by repeat first | exact trivial | refine ⟨rfl, ?_⟩), (by repeat first | exact Wk.nil | exact Wk.refl | (apply Wk.cons; (focus ((repeat first | exact Rem.here | apply Rem.there | apply Rem.skip); done))) | apply Wk.nilv | apply Wk.last | apply Wk.drop), hltj, by omega⟩
      · repeat' (first
      | (apply G_rdF; eq_refl; (apply Rd.old; (repeat first | exact In.here | apply In.there | apply In.skip); assumption); (case ih => infer_instance); omega; omega; (first | (rw [hx]; dsimp only [encM]; eq_refl) | (rw [hy]; dsimp only [encM]; eq_refl)))
      | (apply GC_seqK; intro K hK)
      | (apply hK; clear hK K)
      | (clear hK K; apply hK; clear hK K)
      | (apply GC_region)
      | (apply GL_nil)
      | (apply thenG_normal)
      | (apply thenG_exit)
      | (apply blockG_hit)
      | (apply blockG_normal)
      | (apply GC_exit)
      | (apply GC_if_false; eq_refl)
      | (apply GL_on; eq_refl; eq_refl)
      | (apply G_pv; eq_refl; first | exact trivial | omega)
      | (apply G_fieldP; eq_refl)
      | (apply G_cmpF; eq_refl; eq_refl; omega)
      | (apply G_len; eq_refl)
      | (apply G_ix; eq_refl; eq_refl; (first | (apply Rd.own; (repeat first | exact In.here | apply In.there | apply In.skip); infer_instance) | (apply Rd.old; (repeat first | exact In.here | apply In.there | apply In.skip); assumption) | (apply Rd.oldR; (repeat first | exact In.here | apply In.there | apply In.skip); assumption) | exact Rd.nil | assumption); (first | eq_refl | omega); omega; omega))
        exact ⟨i + 1, (by repeat first | exact trivial | refine ⟨rfl, ?_⟩), (by repeat first | exact Wk.nil | exact Wk.refl | (apply Wk.cons; (focus ((repeat first | exact Rem.here | apply Rem.there | apply Rem.skip); done))) | apply Wk.nilv | apply Wk.last | apply Wk.drop), hlt, by omega⟩
  · repeat' (first
      | (apply GC_seqK; intro K hK)
      | (apply hK; clear hK K)
      | (clear hK K; apply hK; clear hK K)
      | (apply GC_region)
      | (apply GL_nil)
      | (apply thenG_normal)
      | (apply thenG_exit)
      | (apply blockG_hit)
      | (apply GC_ret)
      | (apply GC_exit)
      | (apply GC_if_false; eq_refl)
      | (apply retG1; eq_refl)
      | (apply GL_on; eq_refl; eq_refl)
      | (apply G_pv; eq_refl; first | exact trivial | omega)
      | (apply G_cmpF; eq_refl; eq_refl; omega)
      | (apply G_len; eq_refl))
    exact ⟨[], (by repeat first | exact Wk.nil | exact Wk.refl | (apply Wk.cons; (focus ((repeat first | exact Rem.here | apply Rem.there | apply Rem.skip); done))) | apply Wk.nilv | apply Wk.last | apply Wk.drop), rfl, rfl⟩
end SC
end Go.Proofs.Ytkndegjodnciaaa
end
section
/- trestlebook: CopyTrace; runs of traces that read the same. -/
set_option linter.unusedVariables false
set_option linter.unusedSimpArgs false
namespace Go.Proofs.Ytkndegjodnciaaa
namespace SC
open Go.Proofs
theorem map_snd_get {α β γ : Type} [Inhabited α] [Inhabited β] [Inhabited γ] {ps : List (α × β)} {qs : List (γ × β)} (h : ps.map (·.2) = qs.map (·.2)) (i : Nat) : (gt ps (i : Int)).2 = (gt qs (i : Int)).2 := by
  have hl := congrArg List.length h
  simp only [List.length_map] at hl
  by_cases hi : i < ps.length
  · exact gt_snd h hi
  · unfold gt
    simp only [Int.toNat_natCast]
    rw [List.getD_eq_getElem?_getD, List.getD_eq_getElem?_getD, List.getElem?_eq_none (by omega), List.getElem?_eq_none (by omega)]
    rfl
theorem TrcEq.fit {c : Circ} {t t' : Trc} (E : TrcEq t t') : fitsM c t = fitsM c t' := by
  have e3 := congrArg List.length E.rows
  simp only [List.length_map] at e3
  have e4 : ∀ (r : List (Hdl × List Bool)), (r.all fun p => decide (p.2.length = c.inputs.length)) = (r.map (·.2)).all fun l => decide (l.length = c.inputs.length) := fun r => by rw [List.all_map]; rfl
  unfold fitsM
  rw [E.init, E.loop, e3, e4, e4, E.rows]
theorem TrcEq.st {c : Circ} {t t' : Trc} (E : TrcEq t t') : ∀ k, stM c t k = stM c t' k
  | 0 => E.init
  | k + 1 => by unfold stM; rw [TrcEq.st E k, map_snd_get E.rows k]
theorem TrcEq.runE {c : Circ} {t t' : Trc} (E : TrcEq t t') : runE c t = runE c t' := by unfold SC.runE; rw [E.fit]
theorem TrcEq.runs {c : Circ} {t t' : Trc} (E : TrcEq t t') : runsM c t = runsM c t' := by
  have e3 := congrArg List.length E.rows
  simp only [List.length_map] at e3
  unfold runsM runM
  rw [E.runE, e3]
  congr 1
  exact List.map_congr_left fun k _ => by rw [E.st k, map_snd_get E.rows k]
def rowE (p : Hdl × List Bool) : Mm := [.vec booc 1 4 p.1.1 p.1.2 p.2]
def CopyR (t : Trc) (v : Value) (N : Mm) : Prop := ∃ t' a' b', TrcEq t' t ∧ v = .agg (tcs t' a' b').toArray ∧ N = .vec booc 1 4 a'.1 a'.2 t'.init :: .vec encS 1 62 b'.1 b'.2 t'.rows :: fam rowE t'.rows
/-- A trace in memory of its own. -/
theorem TrcIn.own {Γ : Mm} {w w0 : World} {t t' : Trc} {a b a' b' : Hdl} (H : TrcIn w0 t a b) (E : TrcEq t' t) (h1 : In Γ (.vec booc 1 4 a'.1 a'.2 t'.init)) (h2 : In Γ (.vec encS 1 62 b'.1 b'.2 t'.rows)) (h3 : ∀ F ∈ fam rowE t'.rows, In Γ F) (M : Mem w Γ) : TrcIn w t' a' b' := by
  have e3 := congrArg List.length E.rows
  simp only [List.length_map] at e3
  have hp : ∀ p ∈ t'.rows, In Γ (.vec booc 1 4 p.1.1 p.1.2 p.2) := fun p hp => h3 _ (fam_mem hp (by unfold rowE; simp))
  refine ⟨h1.row M, h2.row M, fun p h => (hp p h).row M, fun h => h1.nil0 M h, fun h => h2.nil0 M h, fun p h hA => (hp p h).nil0 M hA, by rw [E.init]; exact H.li, by rw [e3]; exact H.lr, fun p h => ?_, by rw [E.loop]; exact H.lo⟩
  have : p.2 ∈ t.rows.map (·.2) := by rw [← E.rows]; exact List.mem_map.2 ⟨p, h, rfl⟩
  obtain ⟨q, hq, e⟩ := List.mem_map.1 this
  rw [← e]
  exact H.le q hq
attribute [local irreducible] WC WL WX WS WO OX Does DoesU Enters CV Pure thenQ blockQ retQ Wants retQC GC GL GS GX RdB thenG blockG retG Rd At gt CVN CVM
set_option maxRecDepth 100000
theorem copyTrace_cv {w : World} {t : Trc} {a b : Hdl} (H : TrcIn w t a b) : CVN Try.prog 41 [.agg (tcs t a b).toArray] w (CopyR t) := by
  have hI := H.init
  have hR := H.rows
  have hli := H.li
  have hlr := H.lr
  have hna := H.nila
  refine CVN.enterC (t := 73) 32 2 [] Try.func41 rfl rfl rfl (.inl rfl) rfl ?_
  repeat' (first
      | (apply GC_seqK; intro K hK)
      | (apply hK; clear hK K)
      | (apply GC_block)
      | (apply GC_region)
      | (apply GL_nil)
      | (apply thenG_normal)
      | (apply GL_on; eq_refl; eq_refl)
      | (refine GC_draws (id := 1) [.q 1, .q 2, .q 4, .q 5, .f 7, .c 0, .c 3, .q 6, .land, .c 8] mixed (by kernel_rfl) (by kernel_rfl) ?_)
      | (apply GS_nil)
      | (apply GS_qon; eq_refl; eq_refl; eq_refl; eq_refl)
      | (apply GS_con; eq_refl; eq_refl; eq_refl; eq_refl)
      | (apply GS_fl; eq_refl; infer_instance; eq_refl; eq_refl; eq_refl)
      | (apply GS_land; simp only [landG]; intros)
      | (apply G_pv; eq_refl; first | exact trivial | omega)
      | (apply G_field; eq_refl)
      | (apply G_ld; eq_refl; (repeat first | exact In.here | apply In.there | apply In.skip); eq_refl)
      | (apply G_alloc; eq_refl; intro _)
      | (apply G_box; eq_refl; eq_refl; intro _)
      | (apply G_stW; (first | exact wr_p | kernel_rfl); eq_refl; eq_refl; eq_refl; eq_refl; (repeat first | exact Upd.here | apply Upd.there | apply Upd.skip); eq_refl)
      | (apply G_appP; eq_refl; eq_refl; (repeat first | exact Rem.here | apply Rem.there); (first | (apply Rd.own; (repeat first | exact In.here | apply In.there | apply In.skip); infer_instance) | (apply Rd.old; (repeat first | exact In.here | apply In.there | apply In.skip); assumption) | (apply Rd.oldR; (repeat first | exact In.here | apply In.there | apply In.skip); assumption) | exact Rd.nil | assumption); infer_instance; assumption; eq_refl; eq_refl; omega; decide; intro _ _)
      | (apply GX_pure; apply build73_0_2 <;> eq_refl)
      | (apply G_newP (fun b => .slice (some ⟨b, 0, none⟩) 0 0); (intro _; apply buildS62_0); intro _))
  rename_i b1 b2 b5 A0 c0 b3
  refine GC_loopK [1, 2, 3] (fun s : Nat × List (Hdl × List Bool) × Option Addr × Nat => [(4, nu s.1)])
    (fun s => .box b3 73 [.slice A0 t.init.length c0, .slice s.2.2.1 s.2.1.length s.2.2.2, nu t.loop] :: .vec encS 1 62 s.2.2.1 s.2.2.2 s.2.1 :: .vec booc 1 4 A0 c0 t.init :: .box b2 73 [.slice none 0 0, .slice none 0 0, .int .i64 0] :: .box b1 73 (tcs t a b) :: .old w none_ :: fam rowE s.2.1)
    (fun s => s.1 ≤ t.rows.length ∧ s.2.1.map (·.2) = (t.rows.map (·.2)).take s.1) (fun s => t.rows.length - s.1) (0, [], none, 0) (by repeat first | exact Pick.nil | (apply Pick.cons; eq_refl)) (by repeat first | exact trivial | refine ⟨rfl, ?_⟩) (by repeat first | exact Wk.nil | exact Wk.refl | (apply Wk.cons; (focus ((repeat first | exact Rem.here | apply Rem.there | apply Rem.skip); done))) | apply Wk.nilv | apply Wk.last | apply Wk.drop) ⟨Nat.zero_le _, rfl⟩ ?_
  rintro ⟨i, rs, B, kB⟩ ⟨hi, hrs⟩
  dsimp only at hi hrs ⊢
  have hl : rs.length = i := by have := congrArg List.length hrs; simp at this; omega
  rcases Nat.lt_or_ge i t.rows.length with hlt | hge
  · have hm := gt_mem (l := t.rows) (i := (i : Int)) (by omega) (by omega)
    have hle := H.le _ hm
    have hrow := H.each _ hm
    have hnil := H.nile _ hm
    repeat' (first
      | (apply G_appP; eq_refl; eq_refl; (repeat first | exact Rem.here | apply Rem.there); (apply Rd.old; (repeat first | exact In.here | apply In.there | apply In.skip); exact hrow); infer_instance; exact hnil; eq_refl; eq_refl; omega; decide; intro A13 k13)
      | (apply G_app; (first | exact wr_p | kernel_rfl); eq_refl; eq_refl; (intro A c; (repeat first | exact Upd.here | apply Upd.there | apply Upd.skip)); infer_instance; (repeat first | exact In.here | apply In.there | apply In.skip); exact Dec.one ((A13, k13), (gt t.rows (i : Int)).2); eq_refl; eq_refl; eq_refl; (simp only [List.length_cons, List.length_nil]; omega); decide; intro A14 k14)
      | (apply GC_seqK; intro K hK)
      | (apply hK; clear hK K)
      | (apply GC_block)
      | (apply GC_region)
      | (apply GL_nil)
      | (apply thenG_normal)
      | (apply blockG_normal)
      | (apply GC_skip)
      | (apply GC_if_true; eq_refl)
      | (apply GL_on; eq_refl; eq_refl)
      | (refine GC_draws (id := 5) [.q 0, .q 1, .q 3, .q 4, .q 5, .q 6, .q 7, .c 2, .c 8, .c 9, .c 10, .q 11, .c 12] mixed (by kernel_rfl) (by kernel_rfl) ?_)
      | (apply GS_nil)
      | (apply GS_qon; eq_refl; eq_refl; eq_refl; eq_refl)
      | (apply GS_con; eq_refl; eq_refl; eq_refl; eq_refl)
      | (apply G_pv; eq_refl; first | exact trivial | omega)
      | (apply G_field; eq_refl)
      | (apply G_ld; eq_refl; (repeat first | exact In.here | apply In.there | apply In.skip); eq_refl)
      | (apply G_rd; eq_refl; (first | (apply Rd.own; (repeat first | exact In.here | apply In.there | apply In.skip); infer_instance) | (apply Rd.old; (repeat first | exact In.here | apply In.there | apply In.skip); assumption) | (apply Rd.oldR; (repeat first | exact In.here | apply In.there | apply In.skip); assumption) | exact Rd.nil | assumption); (case ih => infer_instance); omega; omega; eq_refl)
      | (apply G_cmpT; eq_refl; eq_refl; omega)
      | (apply G_len; eq_refl)
      | (apply G_ix; eq_refl; eq_refl; (first | (apply Rd.own; (repeat first | exact In.here | apply In.there | apply In.skip); infer_instance) | (apply Rd.old; (repeat first | exact In.here | apply In.there | apply In.skip); assumption) | (apply Rd.oldR; (repeat first | exact In.here | apply In.there | apply In.skip); assumption) | exact Rd.nil | assumption); (first | eq_refl | omega); omega; omega)
      | (apply G_st; (first | exact wr_p | kernel_rfl); eq_refl; eq_refl; eq_refl; eq_refl; (repeat first | exact Upd.here | apply Upd.there | apply Upd.skip); (first | decide | exact Nat.le_of_ble_eq_true rfl))
      | (apply G_newP (fun b => .slice (some ⟨b, 0, none⟩) 0 0); (intro _; apply buildS62_0); intro _)
      | (apply G_new (fun b => .slice (some ⟨b, 0, none⟩) 1 1); eq_refl; (intro _; apply buildS71_1 <;> eq_refl); intro _))
    refine ⟨(i + 1, rs ++ [((A13, k13), (gt t.rows (i : Int)).2)], A14, k14), (by repeat first | exact trivial | refine ⟨rfl, ?_⟩), ?_, ⟨hlt, ?_⟩, by simp only; omega⟩
    · dsimp only
      rw [fam_snoc]
      exact (by repeat first | exact Wk.nil | exact Wk.refl | (apply Wk.cons; (focus ((repeat first | exact Rem.here | apply Rem.there | apply Rem.skip); done))) | apply Wk.nilv | apply Wk.last | apply Wk.drop)
    · dsimp only
      rw [List.map_append, hrs, List.take_succ_eq_append_getElem (by simpa using hlt), gt_nat hlt]
      simp
  · repeat' (first
      | (apply GC_seqK; intro K hK)
      | (apply hK; clear hK K)
      | (clear hK K; apply hK; clear hK K)
      | (apply GC_region)
      | (apply GL_nil)
      | (apply thenG_normal)
      | (apply thenG_exit)
      | (apply blockG_hit)
      | (apply GC_ret)
      | (apply GC_exit)
      | (apply GC_if_false; eq_refl)
      | (apply retGC0; eq_refl; (repeat first | exact In.here | apply In.there | apply In.skip); eq_refl)
      | (apply GL_on; eq_refl; eq_refl)
      | (apply G_pv; eq_refl; first | exact trivial | omega)
      | (apply G_field; eq_refl)
      | (apply G_ld; eq_refl; (repeat first | exact In.here | apply In.there | apply In.skip); eq_refl)
      | (apply G_ldW; eq_refl; (repeat first | exact In.here | apply In.there | apply In.skip); eq_refl)
      | (apply G_cmpF; eq_refl; eq_refl; omega)
      | (apply G_len; eq_refl)
      | (apply G_stW; (first | exact wr_p | kernel_rfl); eq_refl; eq_refl; eq_refl; eq_refl; (repeat first | exact Upd.here | apply Upd.there | apply Upd.skip); eq_refl))
    have e1 : rs.map (·.2) = t.rows.map (·.2) := by rw [hrs, List.take_of_length_le (by simp; omega)]
    exact ⟨_, (by repeat first | exact Wk.nil | exact Wk.refl | (apply Wk.cons; (focus ((repeat first | exact Rem.here | apply Rem.there | apply Rem.skip); done))) | apply Wk.nilv | apply Wk.last | apply Wk.drop), ⟨t.init, rs, t.loop⟩, (A0, c0), (B, kB), ⟨rfl, rfl, e1⟩, rfl, rfl⟩
end SC
end Go.Proofs.Ytkndegjodnciaaa
end
section
/- Entries bound together; what runs answer. -/
set_option linter.unusedVariables false
set_option linter.unusedSimpArgs false
namespace Go.Proofs.Ytkndegjodnciaaa
namespace SC
open Go.Proofs
/-- Entries as one. -/
def bun (Δ : Mm) : EntX where
  own := owns Δ
  ok := fun w => Mem w Δ
  lt := fun w M k hk => M.lt hk
  keep := fun w w' S M hc hn => M.chg hc hn
theorem In.bun {Γ Δ : Mm} {w : World} (h : In Γ (.any (bun Δ))) (M : Mem w Γ) : Mem w Δ := h.ok M
theorem Rd.bun {α : Type} {Γ Δ : Mm} {enc : α → List Value} {sz : Nat} {A : Option Addr} {l : List α} (h : In Γ (.any (bun Δ))) (h0 : Rd Δ enc sz A l) : Rd Γ enc sz A l := fun w M => h0.at (h.bun M)
theorem CVN.bun {P : Program} {f : FuncId} {args : List Value} {w : World} {R : Value → Mm → Prop} (h : CVN P f args w R) : CVN P f args w fun v N => ∃ N', R v N' ∧ N = [.any (bun N')] :=
  CV.mono h fun v w' ⟨N, M, hR⟩ => ⟨[.any (SC.bun N)], Mem.join (.one M.left) M.right fun k ⟨E, hE, h1⟩ h2 => by
    simp only [List.mem_singleton] at hE
    subst hE
    exact M.sep k h1 h2, N, hR, rfl⟩
theorem Wk.left {Γ Δ : Mm} : Wk (Δ ++ Γ) Δ := ⟨fun w M => M.left, fun k hk => owns_append.2 (.inl hk)⟩
/-- A run's moments, bound together. -/
abbrev runB (ps : List (HMom × Mom)) (A : Option Addr) (k : Nat) : Mm := .vec encM 4 82 A k ps :: fam momE ps
theorem MomsIn.bun {Γ : Mm} {w : World} {A : Option Addr} {k : Nat} {ps : List (HMom × Mom)} (hi : In Γ (.any (bun (runB ps A k)))) (M : Mem w Γ) : MomsIn w A ps := MomsIn.of .here (fun E hE => .there (In.of hE)) (hi.bun M)
abbrev trcB (t : Trc) (a b : Hdl) : Mm := .vec booc 1 4 a.1 a.2 t.init :: .vec encS 1 62 b.1 b.2 t.rows :: fam rowE t.rows
theorem TrcIn.bun {Γ : Mm} {w w0 : World} {t t' : Trc} {a b a' b' : Hdl} (H : TrcIn w0 t a b) (E : TrcEq t' t) (hi : In Γ (.any (bun (trcB t' a' b')))) (M : Mem w Γ) : TrcIn w t' a' b' := H.own E .here (.there .here) (fun F hF => .there (.there (In.of hF))) (hi.bun M)
theorem mem_selF {a : Int} {v : List Bool} {ls : List Int} {i : Nat} {x : Int × Int} (h : x ∈ selF a v ls i) : x.1 = a ∧ 0 ≤ x.2 ∧ x.2 < i := by
  unfold selF at h
  obtain ⟨k, hk, rfl⟩ := List.mem_map.1 h
  have := (List.mem_filter.1 hk).1
  simp at this
  exact ⟨rfl, by simp, by simp; omega⟩
theorem mem_fairJ {v : List Bool} {js : List (List Int)} {i : Nat} {x : Int × Int} (h : x ∈ fairJ v js i) : 0 ≤ x.1 ∧ x.1 < i ∧ 0 ≤ x.2 ∧ ∃ l, x.2 < l ∧ (l : Int) ≤ (js.getD x.1.toNat []).length := by
  unfold fairJ at h
  obtain ⟨k, hk, h2⟩ := List.mem_flatMap.1 h
  obtain ⟨e1, e2, e3⟩ := mem_selF h2
  simp at hk
  refine ⟨by omega, by omega, e2, ((js.getD k []).length : Int), e3, ?_⟩
  rw [e1]
  simp
/-- What is so of a run's moments. -/
theorem runs_facts {w : World} {c : Circ} {h js : Hd} {t : Trc} (H : CirIn w c h js) : ∀ m ∈ runsM c t, m.state.length ≤ 16384 ∧ ∀ x ∈ m.fair, fits x.1 ∧ fits x.2 := by
  intro m hm
  unfold runsM at hm
  split at hm
  · rename_i he
    obtain ⟨z1, F⟩ := runE_zero he
    have R := right_of H.at_ H.sane z1
    have n2 := R.nLat
    have n3 := R.nJust
    have n4 := R.nFair
    have n5 := R.sumJ H.fits
    unfold runM at hm
    obtain ⟨k, hk, rfl⟩ := List.mem_map.1 hm
    refine ⟨by show (stM c t k).length ≤ _; rw [stM_len F.init]; exact n2, fun x hx => ?_⟩
    rcases List.mem_append.1 (show x ∈ fairJ _ c.justice c.justice.length ++ selF (-1) _ c.fairness c.fairness.length from hx) with h1 | h1
    · obtain ⟨g1, g2, g3, l, g4, g5⟩ := mem_fairJ h1
      have hlt : x.1.toNat < c.justice.length := by omega
      have := each_sum hlt
      have e1 : c.justice.getD x.1.toNat [] = c.justice[x.1.toNat] := by simp [hlt]
      rw [e1] at g5
      unfold fits
      omega
    · obtain ⟨g1, g2, g3⟩ := mem_selF h1
      unfold fits
      omega
  · cases hm
theorem runs_len {c : Circ} {t : Trc} : (runsM c t).length ≤ 512 := by
  unfold runsM
  split
  · rename_i he
    have := (runE_zero he).2.few
    rw [runM_len]
    exact this
  · exact Nat.zero_le _
def RunR' (ε : Int) (m : List Mom) (v : Value) (N : Mm) : Prop := ∃ (ps : List (HMom × Mom)) (A : Option Addr) (k : Nat), v = .tuple #[.slice A ps.length k, nu ε] ∧ ps.map (·.2) = m ∧ N = runB ps A k
def RunB (ε : Int) (m : List Mom) (v : Value) (N : Mm) : Prop := ∃ (ps : List (HMom × Mom)) (A : Option Addr) (k : Nat), v = .tuple #[.slice A ps.length k, nu ε] ∧ ps.map (·.2) = m ∧ N = [.any (bun (runB ps A k))]
theorem RunR.to {P : Program} {f : FuncId} {args : List Value} {w : World} {c : Circ} {t : Trc} {ε : Int} {m : List Mom} (h : CVN P f args w (RunR c t)) (h1 : runE c t = ε) (h2 : runsM c t = m) : CVN P f args w (RunR' ε m) := by
  subst h1 h2
  exact h
theorem RunB.to {P : Program} {f : FuncId} {args : List Value} {w : World} {ε : Int} {m : List Mom} (h : CVN P f args w (RunR' ε m)) : CVN P f args w (RunB ε m) :=
  h.bun.mono fun v N ⟨N', ⟨ps, A, k, e1, e2, e3⟩, e4⟩ => ⟨ps, A, k, e1, e2, by rw [e4, e3]⟩
end SC
end Go.Proofs.Ytkndegjodnciaaa
end
section
/- trestlelaw07: SimRuns: the walk. -/
set_option linter.unusedVariables false
set_option linter.unusedSimpArgs false
namespace Go.Proofs.Ytkndegjodnciaaa
namespace SC
open Go.Proofs
theorem GS_coffU {P : Program} {n : Nat} {all : List Oper} {K : Env → Mm → Prop} {A : List Fl} {Θ : Mm} {r : List PStep} {e : Env} {Γ : Mm} {j : Nat} {d : Option Tmp} {op : Op} {ty : TypeId} {pos : String} {af : Array Edge} {j' d' : Nat} {b : Bool} (ho : nth all j = some ⟨d, op, ty, pos, af, some (j', b)⟩) (h1 : gslot all j' = some d') (h2 : look e d' = some undef) (hd : slotOk n d = true) (hA : offA A d = true) (h : GS P n all K A Θ r (push d undef e) Γ) : GS P n all K A Θ (.c j :: r) e Γ :=
  GS_chain' (R := fun v Θ' Γ' => v = undef ∧ Θ' = Θ ∧ Γ' = Γ) ho hd hA (fun a w Δ T Q ha M hT => by
    have hi : all.toArray[j]? = some ⟨d, op, ty, pos, af, some (j', b)⟩ := by rw [nth_eq] at ho; simpa using ho
    have hw : Region.wanted ⟨d, op, ty, pos, af, some (j', b)⟩ (yielded all.toArray a.tmps) = false := offU ha h1 h2
    unfold wpOp
    simp only [hi, hw, Bool.false_eq_true, if_false]
    exact hT undef w Θ Γ M ⟨rfl, rfl, rfl⟩ fun _ => ⟨[], rfl⟩) fun v Θ' Γ' ⟨e1, e2, e3⟩ => by rw [e1, e2, e3]; exact h
theorem fam_cons {α : Type} (f : α → Mm) (l : List α) (a : α) : fam f (a :: l) = fam f l ++ f a := by unfold fam; simp
theorem momE_mk {x : HMom} {st : List Bool} {ho : Bool} {bd : List Int} {fr : List (Int × Int)} : momE (x, ⟨st, ho, bd, fr⟩) = [.vec booc 1 4 x.1.1 x.1.2 st, .vec icell 1 3 x.2.1.1 x.2.1.2 bd, .vec spotc 2 138 x.2.2.1 x.2.2.2 fr] := rfl
attribute [local irreducible] WC WL WX WS WO OX Does DoesU Enters CV Pure thenQ blockQ retQ Wants retQC GC GL GS GX RdB thenG blockG retG Rd At gt CVN CVM
attribute [local irreducible] fam bun
set_option maxRecDepth 100000
set_option maxHeartbeats 1600000 in
theorem simRuns_cv {w : World} {c : Circ} {h js : Hd} {t : Trc} {a b : Hdl} (H : CirGot w c h js) (HT : TrcIn w t a b) :
    CVN Try.prog 9 [.agg (ccells c h).toArray, .agg (tcs t a b).toArray] w fun v N => N = [] ∧ v = .bool true := by
  have hM := runs_facts (t := t) H.toCirIn
  have hml := runs_len (c := c) (t := t)
  have hL : ∀ Γ, In Γ (.old w none_) → ∀ w', Mem w' Γ → CVN Try.prog 23 [.agg (ccells c h).toArray] w' (LendR c) := fun Γ hi w' M => LendG (H.at_.chg (hi.old M)) H.fits1 H.nils
  have hC : ∀ Γ, In Γ (.old w none_) → ∀ w', Mem w' Γ → CVN Try.prog 41 [.agg (tcs t a b).toArray] w' fun v N => ∃ t' a' b', TrcEq t' t ∧ v = .agg (tcs t' a' b').toArray ∧ N = [.any (bun (trcB t' a' b'))] := fun Γ hi w' M => (copyTrace_cv (HT.chg (hi.old M))).bun.mono fun v N ⟨N', ⟨t', a', b', e1, e2, e3⟩, e4⟩ => ⟨t', a', b', e1, e2, by rw [e4, e3]⟩
  have hr0 : ∀ Γ base h' js' t' a' b', In Γ (.any (lentX base c h' js')) → TrcEq t' t → In Γ (.any (bun (trcB t' a' b'))) → ∀ w', Mem w' Γ → CVN Try.prog 42 [.agg (ccells c h').toArray, .agg (tcs t' a' b').toArray] w' (RunR' (runE c t) (runsM c t)) := fun Γ base h' js' t' a' b' hi E ht w' M =>
    RunR.to (Run_cv (In.lent H.toCirIn hi M) (TrcIn.bun HT E ht M)) E.runE E.runs
  have hr2 : ∀ Γ base h' js' t' a' b', In Γ (.any (lentX base c h' js')) → TrcEq t' t → In Γ (.any (bun (trcB t' a' b'))) → ∀ w', Mem w' Γ → CVN Try.prog 42 [.agg (ccells c h').toArray, .agg (tcs t' a' b').toArray] w' (RunB (runE c t) (runsM c t)) := fun Γ base h' js' t' a' b' hi E ht w' M => RunB.to (hr0 Γ base h' js' t' a' b' hi E ht w' M)
  have hq0 : ∀ Γ, In Γ (.old w none_) → ∀ w', Mem w' Γ → CVN Try.prog 43 [.agg (ccells c h).toArray, .agg (tcs t a b).toArray] w' (RunB (runE c t) (runsM c t)) := fun Γ hi w' M => RunB.to (RunR.to (RunRef_cv (H.toCirIn.chg (hi.old M)) (HT.chg (hi.old M))) rfl rfl)
  generalize runE c t = ε at *
  generalize runsM c t = m at *
  have hs1 : ∀ Γ ps A k qs B k', In Γ (.vec encM 4 82 A k ps) → (∀ E ∈ fam momE ps, In Γ E) → In Γ (.any (bun (runB qs B k'))) → ps.map (·.2) = m → qs.map (·.2) = m → ∀ w', Mem w' Γ → CVN Try.prog 44 [.slice A ps.length k, .slice B qs.length k'] w' fun v N => N = [] ∧ v = .bool true := fun Γ ps A k qs B k' h1 h2 h3 e1 e2 w' M =>
    same_cv (MomsIn.of h1 h2 M) (MomsIn.bun h3 M) (e1.trans e2.symm) fun p hp x hx => (hM p.2 (by rw [← e1]; exact List.mem_map.2 ⟨p, hp, rfl⟩)).2 x hx
  have hs2 : ∀ Γ ps A k qs B k', In Γ (.any (bun (runB ps A k))) → In Γ (.any (bun (runB qs B k'))) → ps.map (·.2) = m → qs.map (·.2) = m → ∀ w', Mem w' Γ → CVN Try.prog 44 [.slice A ps.length k, .slice B qs.length k'] w' fun v N => N = [] ∧ v = .bool true := fun Γ ps A k qs B k' h1 h3 e1 e2 w' M =>
    same_cv (MomsIn.bun h1 M) (MomsIn.bun h3 M) (e1.trans e2.symm) fun p hp x hx => (hM p.2 (by rw [← e1]; exact List.mem_map.2 ⟨p, hp, rfl⟩)).2 x hx
  have h3 : ∀ Γ base h' js', In Γ (.any (lentX base c h' js')) → In Γ (.old w none_) → ∀ w', Mem w' Γ → CVN Try.prog 30 [.agg (ccells c h').toArray, .agg (ccells c h).toArray] w' _ := fun Γ base h' js' hi ho w' M => KeptG H hi ho M
  have h4 : ∀ Γ t' a' b', TrcEq t' t → In Γ (.any (bun (trcB t' a' b'))) → In Γ (.old w none_) → ∀ w', Mem w' Γ → CVN Try.prog 47 [.agg (tcs t' a' b').toArray, .agg (tcs t a b).toArray] w' _ := fun Γ t' a' b' E hi ho w' M => sameTrace_cv (TrcIn.bun HT E hi M) (HT.chg (ho.old M)) E
  have h5 : ∀ w', CVN Try.prog 48 [] w' _ := fun w' => worksSim_cv
  have h6 : ∀ (A : Option Addr) (k' : Nat) (l : List Bool), l.length ≤ 16384 → ∀ w', Mem w' [.vec booc 1 4 A k' l] → CVM Try.prog 45 [.slice A l.length k'] w' [.vec booc 1 4 A k' l] _ := fun A k' l hl w' M => spoilBools_cv M (by omega)
  have h7 : ∀ (A : Option Addr) (k' : Nat) (l : List Int), ∀ w', Mem w' [.vec icell 1 3 A k' l] → CVM Try.prog 29 [.slice A l.length k', nu (-7)] w' [.vec icell 1 3 A k' l] _ := fun A k' l w' M => spoilIntsG M
  refine CVN.enter 116 [4] Try.func9 rfl rfl rfl (by decide) rfl ?_
  repeat' (first
      | (apply G_call; eq_refl; eq_refl; (apply hL; (repeat first | exact In.here | apply In.there | apply In.skip)); rintro _ _ ⟨base, h', js', rfl, rfl⟩)
      | (apply G_call; eq_refl; eq_refl; (apply hC; (repeat first | exact In.here | apply In.there | apply In.skip)); rintro _ _ ⟨t', a', b', E, rfl, rfl⟩)
      | (apply GC_seqK; intro K hK)
      | (apply hK; clear hK K)
      | (apply GC_region)
      | (apply GL_nil)
      | (apply thenG_normal)
      | (apply GL_on; eq_refl; eq_refl)
      | (refine GC_draws (id := 1) [.q 0, .q 2, .f 4, .f 5, .c 1, .c 3, .land, .c 6, .c 7] mixed (by kernel_rfl) (by kernel_rfl) ?_)
      | (apply GS_nil)
      | (apply GS_qon; eq_refl; eq_refl; eq_refl; eq_refl)
      | (apply GS_con; eq_refl; eq_refl; eq_refl; eq_refl)
      | (apply GS_fl; eq_refl; infer_instance; eq_refl; eq_refl; eq_refl)
      | (apply GS_land; simp only [landG]; intros)
      | (apply G_pv; eq_refl; first | exact trivial | omega)
      | (apply G_ldW; eq_refl; (repeat first | exact In.here | apply In.there | apply In.skip); eq_refl)
      | (apply G_box; eq_refl; eq_refl; intro _)
      | (apply G_stW; (first | exact wr_p | kernel_rfl); eq_refl; eq_refl; eq_refl; eq_refl; (repeat first | exact Upd.here | apply Upd.there | apply Upd.skip); eq_refl))
  apply G_call; eq_refl; eq_refl; (apply hr0; (repeat first | exact In.here | apply In.there | apply In.skip); assumption; (repeat first | exact In.here | apply In.there | apply In.skip)); rintro _ _ ⟨ps, A, kA, rfl, hps, rfl⟩
  repeat' (first
      | (apply G_call; eq_refl; eq_refl; (apply hr2; (repeat first | exact In.here | apply In.there | apply In.skip); assumption; (repeat first | exact In.here | apply In.there | apply In.skip)); rintro _ _ ⟨ps2, A2, kA2, rfl, hps2, rfl⟩)
      | (apply G_call; eq_refl; eq_refl; (apply hq0; (repeat first | exact In.here | apply In.there | apply In.skip)); rintro _ _ ⟨qs, B, kB, rfl, hqs, rfl⟩)
      | (apply G_call; eq_refl; eq_refl; (apply hs1; (repeat first | exact In.here | apply In.there | apply In.skip); (focus (intro E hE; (repeat first | exact In.left (In.of hE) | exact In.of hE | apply In.there | apply In.skip))); (repeat first | exact In.here | apply In.there | apply In.skip); exact hps; exact hqs); rintro _ _ ⟨rfl, rfl⟩)
      | (apply GC_seqK; intro K hK)
      | (apply hK; clear hK K)
      | (apply GC_block)
      | (apply GC_region)
      | (apply GL_nil)
      | (apply thenG_normal)
      | (apply GC_skip)
      | (apply GC_if_false; eq_refl)
      | (apply GL_on; eq_refl; eq_refl)
      | (apply G_pv; eq_refl; first | exact trivial | omega)
      | (apply G_ldW; eq_refl; (repeat first | exact In.here | apply In.there | apply In.skip); eq_refl)
      | (apply G_cmpF; eq_refl; eq_refl; omega))
  rename_i b2 b3 b6 b5
  have hpl : ps.length ≤ 512 := by have := congrArg List.length hps; rw [List.length_map] at this; omega
  have hql : qs.length = ps.length := by have := congrArg List.length (hps.trans hqs.symm); simp only [List.length_map] at this; omega
  have hqR : Rd (runB qs B kB) encM 4 B qs := Rd.own .here inferInstance
  refine GC_loopK [2, 3, 5, 6, 7, 9, 11] (fun i : Nat => [(13, nu i)]) (fun i => .vec encM 4 82 A kA ps :: .any (bun (runB qs B kB)) :: .any (bun (runB ps2 A2 kA2)) :: .box b5 51 (ccells c h') :: .box b6 73 (tcs t' a' b') :: .any (bun (trcB t' a' b')) :: .any (lentX base c h' js') :: .box b3 73 (tcs t a b) :: .box b2 51 (ccells c h) :: .old w none_ :: fam momE (ps.drop i)) (fun i => i ≤ ps.length) (fun i => ps.length - i) 0 (by repeat first | exact Pick.nil | (apply Pick.cons; eq_refl)) (by repeat first | exact trivial | refine ⟨rfl, ?_⟩) (by repeat first | exact Wk.left | exact Wk.refl | (apply Wk.cons; (focus ((repeat first | exact Rem.here | apply Rem.there | apply Rem.skip); done))) | apply Wk.drop) (Nat.zero_le _) ?_
  intro i hi
  rcases Nat.lt_or_ge i ps.length with hlt | hge
  · have hd := List.drop_eq_getElem_cons hlt
    rw [← gt_nat hlt] at hd
    have hst := (hM _ (by rw [← hps]; exact List.mem_map.2 ⟨_, gt_mem (l := ps) (i := (i : Int)) (by omega) (by omega), rfl⟩)).1
    rw [hd, fam_cons]
    generalize hx : gt ps (i : Int) = x at *
    obtain ⟨x1, st, ho, bd, fr⟩ := x
    rw [momE_mk]
    dsimp only at hst
    by_cases hn : i + 1 < ps.length
    · have hg1 := gt_mem (l := ps) (i := (i : Int) + 1) (by omega) (by omega)
      have hg2 := gt_mem (l := qs) (i := (i : Int) + 1) (by omega) (by omega)
      have es := gt_snd (hps.trans hqs.symm) hn
      have hst2 := (hM _ (by rw [← hps]; exact List.mem_map.2 ⟨_, hg1, rfl⟩)).1
      have hm0 : gt ps ((i : Int) + 1) ∈ ps.drop (i + 1) := by
        rw [List.drop_eq_getElem_cons hn, show ((i : Int) + 1) = ((i + 1 : Nat) : Int) by omega, gt_nat hn]
        exact List.mem_cons_self
      have hm1 := fam_mem (f := momE) hm0 (E := .vec booc 1 4 (gt ps ((i : Int) + 1)).1.1.1 (gt ps ((i : Int) + 1)).1.1.2 (gt ps ((i : Int) + 1)).2.state) (by unfold momE; simp)
      have hm2 := fam_mem (f := momE) hm0 (E := .vec icell 1 3 (gt ps ((i : Int) + 1)).1.2.1.1 (gt ps ((i : Int) + 1)).1.2.1.2 (gt ps ((i : Int) + 1)).2.bads) (by unfold momE; simp)
      rw [show (((i + 1 : Nat)) : Int) = (i : Int) + 1 by omega] at es
      clear hm0
      generalize hy : gt ps ((i : Int) + 1) = y at *
      generalize hz : gt qs ((i : Int) + 1) = z at *
      obtain ⟨y1, m2⟩ := y
      obtain ⟨z1, m3⟩ := z
      simp only at es
      subst es
      obtain ⟨st2, ho2, bd2, fr2⟩ := m2
      dsimp only at hm1 hm2 hst2
      have hb0 : ∀ Γ, In Γ (.vec booc 1 4 y1.1.1 y1.1.2 st2) → In Γ (.any (bun (runB qs B kB))) → ∀ w', Mem w' Γ → CVN Try.prog 46 [.slice y1.1.1 st2.length y1.1.2, .slice z1.1.1 st2.length z1.1.2] w' fun v N => N = [] ∧ v = .bool true := fun Γ hi hq w' M => (sameBools_cv (hi.row M) ((MomsIn.bun hq M).st _ hg2) (by omega) (by dsimp only; omega)).mono fun v N ⟨e1', e2'⟩ => ⟨e1', by rw [e2', decide_eq_true rfl]⟩
      have hb1 : ∀ Γ, In Γ (.vec icell 1 3 y1.2.1.1 y1.2.1.2 bd2) → In Γ (.any (bun (runB qs B kB))) → ∀ w', Mem w' Γ → CVN Try.prog 28 [.slice y1.2.1.1 bd2.length y1.2.1.2, .slice z1.2.1.1 bd2.length z1.2.1.2] w' fun v N => N = [] ∧ v = .bool true := fun Γ hi hq w' M => sameIntsG (hi.row M) ((MomsIn.bun hq M).bd _ hg2) (vec_len (hi.ok M))
      repeat' (first
      | (apply G_callM2; exact wr_p; eq_refl; (apply h6; exact hst); (repeat first | exact Rems.nil | (apply Rems.cons; (focus ((repeat first | exact Rem.here | apply Rem.there | apply Rem.skip); done)))); rintro _ _ ⟨rfl, l1, hl1, rfl⟩)
      | (apply G_callM2; exact wr_p; eq_refl; (apply h7); (repeat first | exact Rems.nil | (apply Rems.cons; (focus ((repeat first | exact Rem.here | apply Rem.there | apply Rem.skip); done)))); rintro _ _ rfl)
      | (apply G_call; eq_refl; eq_refl; (apply hb0; (focus (repeat first | exact In.left (In.of hm1) | apply In.there | apply In.skip)); (repeat first | exact In.here | apply In.there | apply In.skip)); rintro _ _ ⟨rfl, rfl⟩)
      | (apply G_call; eq_refl; eq_refl; (apply hb1; (focus (repeat first | exact In.left (In.of hm2) | apply In.there | apply In.skip)); (repeat first | exact In.here | apply In.there | apply In.skip)); rintro _ _ ⟨rfl, rfl⟩)
      | (apply G_ix; eq_refl; eq_refl; (apply Rd.bun (Δ := runB qs B kB); (repeat first | exact In.here | apply In.there | apply In.skip); exact hqR); (first | eq_refl | omega); omega; omega)
      | (apply G_rdF; eq_refl; (first | (apply Rd.own; (repeat first | exact In.here | apply In.there | apply In.skip); infer_instance) | (apply Rd.bun (Δ := runB qs B kB); (repeat first | exact In.here | apply In.there | apply In.skip); exact hqR)); (case ih => infer_instance); omega; omega; (first | (rw [hx]; dsimp only [encM]; eq_refl) | (rw [hy]; dsimp only [encM]; eq_refl) | (rw [hz]; dsimp only [encM]; eq_refl)))
      | (apply GC_seqK; intro K hK)
      | (apply hK; clear hK K)
      | (apply GC_block)
      | (apply GC_region)
      | (apply GL_nil)
      | (apply thenG_normal)
      | (apply blockG_normal)
      | (apply GC_skip)
      | (apply GC_if_true; eq_refl)
      | (apply GC_if_false; eq_refl)
      | (apply GL_on; eq_refl; eq_refl)
      | (refine GC_draws (id := 12) [.q 0, .q 1, .q 2, .q 3, .q 4, .q 5, .q 6, .q 7, .q 8, .q 9, .q 10, .q 11, .q 12, .q 13, .q 14, .q 15, .q 16, .q 17, .c 18, .q 19, .q 20, .q 21, .q 22, .q 23, .q 24, .q 25, .q 26, .q 27, .q 28, .q 29, .q 30, .q 31, .q 32, .c 33, .q 34, .q 35, .q 36] mixed (by kernel_rfl) (by kernel_rfl) ?_)
      | (apply GS_nil)
      | (apply GS_qon; eq_refl; eq_refl; eq_refl; eq_refl)
      | (apply GS_con; eq_refl; eq_refl; eq_refl; eq_refl)
      | (apply G_pv; eq_refl; first | exact trivial | omega)
      | (apply G_fieldP; eq_refl)
      | (apply G_cmpT; eq_refl; eq_refl; omega)
      | (apply G_len; eq_refl)
      | (apply G_ix; eq_refl; eq_refl; (first | (apply Rd.own; (repeat first | exact In.here | apply In.there | apply In.skip); infer_instance) | (apply Rd.old; (repeat first | exact In.here | apply In.there | apply In.skip); assumption) | (apply Rd.oldR; (repeat first | exact In.here | apply In.there | apply In.skip); assumption) | exact Rd.nil | assumption); (first | eq_refl | omega); omega; omega))
      exact ⟨i + 1, (by repeat first | exact trivial | refine ⟨rfl, ?_⟩), (by repeat first | exact Wk.left | exact Wk.refl | (apply Wk.cons; (focus ((repeat first | exact Rem.here | apply Rem.there | apply Rem.skip); done))) | apply Wk.drop), hlt, by omega⟩
    · repeat' (first
      | (apply G_callM2; exact wr_p; eq_refl; (apply h6; exact hst); (repeat first | exact Rems.nil | (apply Rems.cons; (focus ((repeat first | exact Rem.here | apply Rem.there | apply Rem.skip); done)))); rintro _ _ ⟨rfl, l1, hl1, rfl⟩)
      | (apply G_callM2; exact wr_p; eq_refl; (apply h7); (repeat first | exact Rems.nil | (apply Rems.cons; (focus ((repeat first | exact Rem.here | apply Rem.there | apply Rem.skip); done)))); rintro _ _ rfl)
      | (apply G_rdF; eq_refl; (first | (apply Rd.own; (repeat first | exact In.here | apply In.there | apply In.skip); infer_instance) | (apply Rd.bun (Δ := runB qs B kB); (repeat first | exact In.here | apply In.there | apply In.skip); exact hqR)); (case ih => infer_instance); omega; omega; (first | (rw [hx]; dsimp only [encM]; eq_refl) | (rw [hy]; dsimp only [encM]; eq_refl) | (rw [hz]; dsimp only [encM]; eq_refl)))
      | (apply GC_seqK; intro K hK)
      | (apply hK; clear hK K)
      | (apply GC_block)
      | (apply GC_region)
      | (apply GL_nil)
      | (apply thenG_normal)
      | (apply blockG_normal)
      | (apply GC_skip)
      | (apply GC_if_true; eq_refl)
      | (apply GC_if_false; eq_refl)
      | (apply GL_on; eq_refl; eq_refl)
      | (refine GC_draws (id := 12) [.q 0, .q 1, .q 2, .q 3, .q 4, .q 5, .q 6, .q 7, .q 8, .q 9, .q 10, .q 11, .q 12, .q 13, .q 14, .q 15, .q 16, .q 17, .c 18, .q 19, .q 20, .q 21, .q 22, .q 23, .q 24, .q 25, .q 26, .q 27, .q 28, .q 29, .q 30, .q 31, .q 32, .c 33, .q 34, .q 35, .q 36] mixed (by kernel_rfl) (by kernel_rfl) ?_)
      | (apply GS_nil)
      | (apply GS_qon; eq_refl; eq_refl; eq_refl; eq_refl)
      | (apply GS_qoff; eq_refl; eq_refl; eq_refl; eq_refl)
      | (apply GS_qoffU; eq_refl; eq_refl; eq_refl; eq_refl; eq_refl)
      | (apply GS_coff; eq_refl; eq_refl; eq_refl; eq_refl)
      | (apply GS_coffU; eq_refl; eq_refl; eq_refl; eq_refl; eq_refl)
      | (apply G_pv; eq_refl; first | exact trivial | omega)
      | (apply G_fieldP; eq_refl)
      | (apply G_cmpT; eq_refl; eq_refl; omega)
      | (apply G_cmpF; eq_refl; eq_refl; omega)
      | (apply G_len; eq_refl)
      | (apply G_ix; eq_refl; eq_refl; (first | (apply Rd.own; (repeat first | exact In.here | apply In.there | apply In.skip); infer_instance) | (apply Rd.old; (repeat first | exact In.here | apply In.there | apply In.skip); assumption) | (apply Rd.oldR; (repeat first | exact In.here | apply In.there | apply In.skip); assumption) | exact Rd.nil | assumption); (first | eq_refl | omega); omega; omega))
      exact ⟨i + 1, (by repeat first | exact trivial | refine ⟨rfl, ?_⟩), (by repeat first | exact Wk.left | exact Wk.refl | (apply Wk.cons; (focus ((repeat first | exact Rem.here | apply Rem.there | apply Rem.skip); done))) | apply Wk.drop), hlt, by omega⟩
  · repeat' (first
      | (apply G_call; eq_refl; eq_refl; (apply hs2; (repeat first | exact In.here | apply In.there | apply In.skip); (repeat first | exact In.here | apply In.there | apply In.skip); exact hps2; exact hqs); rintro _ _ ⟨rfl, rfl⟩)
      | (apply G_call; eq_refl; eq_refl; (apply h3; (repeat first | exact In.here | apply In.there | apply In.skip); (repeat first | exact In.here | apply In.there | apply In.skip)); rintro _ _ ⟨rfl, rfl⟩)
      | (apply G_call; eq_refl; eq_refl; (apply h4; exact E; (repeat first | exact In.here | apply In.there | apply In.skip); (repeat first | exact In.here | apply In.there | apply In.skip)); rintro _ _ ⟨rfl, rfl⟩)
      | (apply G_call; eq_refl; eq_refl; (exact fun w' _ => h5 w'); rintro _ _ ⟨rfl, rfl⟩)
      | (apply GC_seqK; intro K hK)
      | (apply hK; clear hK K)
      | (clear hK K; apply hK; clear hK K)
      | (apply GC_region)
      | (apply GL_nil)
      | (apply thenG_normal)
      | (apply thenG_exit)
      | (apply blockG_hit)
      | (apply GC_ret)
      | (apply GC_exit)
      | (apply GC_if_false; eq_refl)
      | (apply retG1; eq_refl)
      | (apply GL_on; eq_refl; eq_refl)
      | (apply G_pv; eq_refl; first | exact trivial | omega)
      | (apply G_ldW; eq_refl; (repeat first | exact In.here | apply In.there | apply In.skip); eq_refl)
      | (apply G_cmpF; eq_refl; eq_refl; omega)
      | (apply G_len; eq_refl))
    exact ⟨[], (by repeat first | exact Wk.nil | exact Wk.refl | (apply Wk.cons; (focus ((repeat first | exact Rem.here | apply Rem.there | apply Rem.skip); done))) | apply Wk.nilv | apply Wk.last | apply Wk.drop), rfl, rfl⟩
end SC
end Go.Proofs.Ytkndegjodnciaaa
end
section
/- Traces that come in. -/
set_option linter.unusedVariables false
set_option linter.unusedSimpArgs false
namespace Go.Proofs.Ytkndegjodnciaaa
namespace SC
open Go.Proofs
set_option maxRecDepth 100000
section
variable {H : Type} {enc : TypeId × Value → H} {W : World} {base : Nat} {spare : Nat → Bool} {held : Bool}
theorem bytes62 : Try.prog.bytesOf 62 = 24 := by kernel_rfl
/-- A row of a trace that comes in. -/
theorem openTrowS {fuel : Nat} {cs : List Value} {x : DataW H × List MemPlace} (h : DataW.trod enc Try.prog W base spare held fuel 62 cs = some x) : ∃ y : Hdl × List Bool, encS y = cs ∧ (RowA W booc 1 y.1.1 y.2 ∧ (y.1.1 = none → y.1.2 = 0) ∧ ∀ R, (∀ n ∈ x.1.weights Try.prog 62, n ≤ R) → y.2.length ≤ R) := by
  obtain ⟨A, cp, l, rfl, r, z, w⟩ := openBoolsF h
  exact ⟨((A, cp), l), rfl, r, z, w⟩
/-- A trace that comes in. -/
theorem openTrcS {v : Value} {d : DataW H} {ps : List MemPlace} {r : Reach} {b0 : Nat} (hv : Value.okWide Try.prog W r b0 73 v) (h : DataW.Trod enc Try.prog W base spare held 73 v d ps) (hz : ∀ n ∈ d.weights Try.prog 73, n ≤ 140737488351232) :
    ∃ (t : Trc) (a b : Hdl), v = .agg (tcs t a b).toArray ∧ TrcIn W t a b := by
  obtain ⟨cs, rfl, hsz⟩ := Go.WideShapes.okWide_struct Try.underlying73 hv
  obtain ⟨fuel, hf⟩ := h
  rw [agg_cells] at hf
  obtain ⟨hl, n, hfl⟩ := openFieldS Try.underlying73 (by kernel_rfl) hf
  have hl : cs.toList.length = 3 := hl
  obtain ⟨y0, h0, g0⟩ := hfl 0 _ (by rw [hl]; decide) rfl rfl (by kernel_rfl)
  obtain ⟨y1, h1, g1⟩ := hfl 1 _ (by rw [hl]; decide) rfl rfl (by kernel_rfl)
  obtain ⟨y2, h2, g2⟩ := hfl 2 _ (by rw [hl]; decide) rfl rfl (by kernel_rfl)
  obtain ⟨A0, c0, l0, e0, r0, z0, w0⟩ := openBoolsF h0
  obtain ⟨A1, c1, l1, e1, r1, k1, n1, z1, w1⟩ := openRowS encS (fun y d => RowA W booc 1 y.1.1 y.2 ∧ (y.1.1 = none → y.1.2 = 0) ∧ ∀ R, (∀ n ∈ d.weights Try.prog 62, n ≤ R) → y.2.length ≤ R) Try.underlying71 (by kernel_rfl) (fun _ => rfl) (fun _ _ _ h => openTrowS h) h1
  obtain ⟨lo, e2, f2⟩ := openIntS h2
  rw [bytes62] at w1
  have v0 := w0 _ fun n hn => hz n (g0 n hn)
  have v1 := w1 _ fun n hn => hz n (g1 n hn)
  have k1' : ∀ y ∈ l1, RowA W booc 1 y.1.1 y.2 ∧ (y.1.1 = none → y.1.2 = 0) ∧ y.2.length ≤ 140737488351232 := fun y hy => by
    obtain ⟨d, ⟨q1, q2, q3⟩, q5⟩ := k1 y hy
    exact ⟨q1, q2, q3 _ fun n hn => hz n (g1 n (q5 n hn))⟩
  refine ⟨⟨l0, l1, lo⟩, (A0, c0), (A1, c1), ?_, r0, r1, fun p hp => (k1' p hp).1, z0, z1, fun p hp => (k1' p hp).2.1, v0, (by show l1.length ≤ _; omega), fun p hp => (k1' p hp).2.2, f2⟩
  congr 1
  apply Array.ext'
  apply List.ext_getElem (by rw [hl]; rfl)
  intro i hi1 hi2
  match i, hi2 with
  | 0, _ => exact (List.cons.inj e0).1
  | 1, _ => exact (List.cons.inj e1).1
  | 2, _ => exact (List.cons.inj e2).1.symm
end
end SC
end Go.Proofs.Ytkndegjodnciaaa
end

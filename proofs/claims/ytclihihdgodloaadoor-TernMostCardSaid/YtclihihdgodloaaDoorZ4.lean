/- Texts of this seat, one behind the other: T18. -/
import Derived.Test.YtclihihdgodloaaDoorZ3
section
/- trestlelaw08: TernMost: the walk. -/
set_option linter.unusedVariables false
set_option linter.unusedSimpArgs false
namespace Go.Proofs.YtclihihdgodloaaDoor
namespace SC
open Go.Proofs
theorem lfE_zero {c : Circ} {s r ls : List Int} (h : lfE c s r ls = 0) : twE c s r = 0 ∧ (∀ l ∈ ls, inR c l) ∧ onesT (valT c s r) ls = true := by
  by_cases h1 : twE c s r = 0
  · by_cases h2 : 16384 < ls.length
    · rw [lfE_long h1 h2] at h; cases h
    · cases h3 : (ls.all fun l => decide (0 ≤ l) && decide (l ≤ 2 * c.max + 1))
      · rw [lfE_rg h1 h2 h3] at h; cases h
      · cases h4 : onesT (valT c s r) ls
        · rw [lfE_no h1 h2 h3 h4] at h; cases h
        · exact ⟨h1, lits_in h3, rfl⟩
  · rw [lfE_tw h1] at h; exact absurd h h1
theorem lit_in {v : List Int} {l : Int} (h3 : Row3 v) (h0 : 0 ≤ l / 2) (h1 : l / 2 < v.length) (hl : v.length ≤ 32768) : lsE v l = 0 ∧ lsM v l = tl v l := by
  have hg := h3 _ (gt_mem (l := v) (i := l / 2) h0 h1)
  unfold Is3 at hg
  have e : lsE v l = 0 := lsE_ok (by omega) (by omega) (by omega)
  exact ⟨e, if_pos e⟩
theorem ones_take {v ls : List Int} {i : Nat} (h : i < ls.length) : onesT v (ls.take (i + 1)) = (onesT v (ls.take i) && decide (tl v (gt ls (i : Int)) = 1)) := by
  unfold onesT
  rw [List.take_succ_eq_append_getElem h, ← gt_nat h, List.all_append]
  simp
attribute [local irreducible] WC WL WX WS WO OX Does DoesU Enters CV Pure thenQ blockQ retQ Wants retQC GC GL GS GX RdB thenG blockG retG Rd At gt CVN CVM
attribute [local irreducible] lentX bun
set_option maxRecDepth 100000
set_option maxHeartbeats 1600000 in
theorem ternMost_cv {w : World} {c : Circ} {h js : Hd} {S T L : Option Addr} {k1 k2 k3 : Nat} {s r ls : List Int} (G : TabG w) (H : CirIn w c h js) (hS : Got w S k1 s) (hT : Got w T k2 r) (hL0 : Got w L k3 ls) :
    CVN Tryd.prog 6 [.agg (ccells c h).toArray, .agg #[.slice S s.length k1, .slice T r.length k2, .slice L ls.length k3]] w fun v N => N = [] ∧ v = .bool true := by
  have hns := hS.len
  have hnr := hT.len
  have hnl := hL0.len
  have hSr := hS.row
  have hTr := hT.row
  have hLr := hL0.row
  have hW : ∀ Γ, In Γ (.old w none_) → ∀ w', Mem w' Γ → CVN Tryd.prog 18 [] w' _ := fun Γ ho w' M => works8_cv (G.chg (ho.old M))
  have hli : ∀ Γ, In Γ (.old w none_) → ∀ w', Mem w' Γ → CVN Tryd.prog 12 [.agg (ccells c h).toArray, .slice S s.length k1, .slice T r.length k2, .slice L ls.length k3] w' (IntsE (lfM c s r ls) (lfE c s r ls)) := fun Γ ho w' M => LiftP_cv (H.chg (ho.old M)) (hSr.chg (ho.old M)) (hTr.chg (ho.old M)) (hLr.chg (ho.old M)) (by omega) (by omega) (by omega) (G.chg (ho.old M))
  unfold IntsE at hli
  refine CVN.enter 106 [4] Tryd.func6 rfl rfl rfl (by decide) rfl ?_
  by_cases he : lfE c s r ls = 0
  · obtain ⟨g1, g2, g3⟩ := lfE_zero he
    obtain ⟨z0, ⟨z1, z2⟩, z3, z4⟩ := twE_zero g1
    have R := right_of H.at_ H.sane z0
    have m0 := R.m0
    have m1 := R.m1
    have n1 := R.nIn
    have n2 := R.nLat
    have e1 : lfM c s r ls = lfT c s r ls s.length := if_pos he
    rw [he, e1] at hli
    have hZl := lfT_len (c := c) (s := s) (r := r) (ls := ls) s.length
    have hZ3 := lfT_row (c := c) (r := r) (ls := ls) z2 s.length
    have hZ1 := lfT_ones (c := c) (r := r) (ls := ls) g3 s.length
    have hZm : ∀ k : Nat, k < s.length → gt (lfT c s r ls s.length) (k : Int) ≠ 2 → _ := fun k hk hne => lfT_most R z1 z3 z2 z4 g2 hk hne
    generalize lfT c s r ls s.length = Z at *
    have hval : ∀ X : List Int, X.length = s.length → Row3 X → ∀ Γ A q, In Γ (.old w none_) → In Γ (.vec icell 1 3 A q X) → ∀ w', Mem w' Γ → CVN Tryd.prog 24 [.agg (ccells c h).toArray, .slice A X.length q, .slice T r.length k2] w' fun v N => ∃ A' k', v = .tuple #[.slice A' (valT c X r).length k', nu 0] ∧ N = [.vec icell 1 3 A' k' (valT c X r)] := fun X hX h3 Γ A q ho hi w' M => by
      have e := twE_of (c := c) (r := r) z0 (hX.trans z1) z3 h3 z4
      have e2 : tvM c X r = valT c X r := if_pos e
      have := ValuesT_cv (k2 := q) (k3 := k2) (G.chg (ho.old M)) (H.chg (ho.old M)) (hi.row M) (hTr.chg (ho.old M)) (by omega) (by omega)
      unfold IntsE at this
      rwa [e, e2] at this
    have hlit : ∀ X : List Int, X.length = s.length → Row3 X → ∀ l ∈ ls, ∀ Γ A q, In Γ (.old w none_) → In Γ (.vec icell 1 3 A q (valT c X r)) → ∀ w', Mem w' Γ → CVN Tryd.prog 28 [.slice A (valT c X r).length q, nu l] w' fun v N => N = [] ∧ v = .tuple #[nu (tl (valT c X r) l), nu 0] := fun X hX h3 l hl Γ A q ho hi w' M => by
      have hvl := valT_len m0 X r
      have hv3 := valT_row (c := c) h3 z4 (hX.trans z1) z3
      have hin := g2 l hl
      have hin' := hin
      unfold inR at hin'
      obtain ⟨q1, q2⟩ := lit_in hv3 (l := l) (by omega) (by omega) (by omega)
      have := LitP8_cv (l := l) (G.chg (ho.old M)) (hi.row M) (vec_cap (hi.ok M)) (by omega)
      rwa [q1, q2] at this
    repeat' (first
|(apply G_call;eq_refl;eq_refl;(apply hW;(repeat first|exact In.here|apply In.there|apply In.skip));rintro _ _ ⟨rfl, rfl⟩)
|(apply G_call;eq_refl;eq_refl;(apply hli;(repeat first|exact In.here|apply In.there|apply In.skip));rintro _ _ ⟨A8, k8, rfl, rfl⟩)
|(apply GC_seqK;intro K hK)
|(apply hK;clear hK K)
|(apply GC_block)
|(apply GC_region)
|(apply GL_nil)
|(apply thenG_normal)
|(apply GC_skip)
|(apply GC_if_false;eq_refl)
|(apply GL_on;eq_refl;eq_refl)
|(apply G_pv;eq_refl;first|exact trivial|omega)
|(apply G_field;eq_refl)
|(apply G_ld;eq_refl;(repeat first|exact In.here|apply In.there|apply In.skip);eq_refl)
|(apply G_ldW;eq_refl;(repeat first|exact In.here|apply In.there|apply In.skip);eq_refl)
|(apply G_cmpF;eq_refl;eq_refl;omega)
|(apply G_len;eq_refl)
|(apply G_box;eq_refl;eq_refl;intro _))
    rename_i b2 b3
    refine GC_loopK [2, 3, 5] (fun i : Nat => [(7, nu ((i : Int) - 1))]) (fun _ => [.vec icell 1 3 A8 k8 Z, .box b2 29 (ccells c h), .box b3 31 [.slice S s.length k1, .slice T r.length k2, .slice L ls.length k3], .old w none_]) (fun i => i ≤ Z.length + 1) (fun i => Z.length + 1 - i) 0 (by repeat first | exact Pick.nil | (apply Pick.cons; eq_refl)) (by repeat first | exact trivial | refine ⟨rfl, ?_⟩) (by repeat first | exact Wk.nil | exact Wk.refl | (apply Wk.cons; (focus ((repeat first | exact Rem.here | apply Rem.there | apply Rem.skip); done))) | apply Wk.nilv | apply Wk.last | apply Wk.drop) (Nat.zero_le _) ?_
    intro i hi
    rcases Nat.lt_or_ge i (Z.length + 1) with hlt | hge
    · rcases i with _ | k
      · have hv := hval Z hZl hZ3
        have hl := hlit Z hZl hZ3
        generalize valT c Z r = V at *
        repeat' (first
|(apply G_appBV (enc := icell) ([] : List Int);(first|exact wr_p|kernel_rfl);eq_refl;eq_refl;infer_instance;(repeat first|exact Upd.here|apply Upd.there|apply Upd.skip);exact Dec.nil;(repeat first|exact In.here|apply In.there|apply In.skip);(intro A c;(repeat first|exact Upd.here|apply Upd.there|apply Upd.skip));eq_refl;eq_refl;exact Nat.le_of_ble_eq_true rfl;eq_refl;eq_refl;(simp only [List.length_nil];omega);decide;intro A11 k11;simp only [List.nil_append])
|(apply G_call;eq_refl;eq_refl;(apply hv;(repeat first|exact In.here|apply In.there|apply In.skip);(repeat first|exact In.here|apply In.there|apply In.skip));rintro _ _ ⟨A9, k9, rfl, rfl⟩)
|(apply GC_seqK;intro K hK)
|(apply hK;clear hK K)
|(apply GC_block)
|(apply GC_region)
|(apply GL_nil)
|(apply thenG_normal)
|(apply GC_skip)
|(apply GC_if_true;eq_refl)
|(apply GC_if_false;eq_refl)
|(apply GL_on;eq_refl;eq_refl)
|(apply G_pv;eq_refl;first|exact trivial|omega)
|(apply G_field;eq_refl)
|(apply G_ld;eq_refl;(repeat first|exact In.here|apply In.there|apply In.skip);eq_refl)
|(apply G_ldW;eq_refl;(repeat first|exact In.here|apply In.there|apply In.skip);eq_refl)
|(apply G_cmpT;eq_refl;eq_refl;omega)
|(apply G_cmpF;eq_refl;eq_refl;omega)
|(apply G_len;eq_refl)
|(apply G_new (fun b => .slice (some ⟨b, 0, none⟩) 0 0);eq_refl;(intro _;apply buildS22_0);intro _))
        refine GC_loopK [2, 3, 5, 7, 9, 80, 81] (fun s : Nat × Bool => [(82, nu s.1), (11, .bool s.2)]) (fun _ => [.vec icell 1 3 A9 k9 V, .vec icell 1 3 A8 k8 Z, .box b2 29 (ccells c h), .box b3 31 [.slice S s.length k1, .slice T r.length k2, .slice L ls.length k3], .old w none_]) (fun s => s.1 ≤ ls.length ∧ s.2 = onesT V (ls.take s.1)) (fun s => ls.length - s.1) (0, true) (by repeat first | exact Pick.nil | (apply Pick.cons; eq_refl)) (by repeat first | exact trivial | refine ⟨rfl, ?_⟩) (by repeat first | exact Wk.nil | exact Wk.refl | (apply Wk.cons; (focus ((repeat first | exact Rem.here | apply Rem.there | apply Rem.skip); done))) | apply Wk.nilv | apply Wk.last | apply Wk.drop) ⟨Nat.zero_le _, rfl⟩ ?_
        rintro ⟨j, x⟩ ⟨hj, hx⟩
        dsimp only at hj hx ⊢
        rcases Nat.lt_or_ge j ls.length with hlt2 | hge2
        · have hlj := hl _ (gt_mem (l := ls) (i := (j : Int)) (by omega) (by omega))
          have e5 := ones_take (v := V) hlt2
          rw [← hx] at e5
          cases x
          · repeat' (first
|(apply G_call;eq_refl;eq_refl;(apply hlj;(repeat first|exact In.here|apply In.there|apply In.skip);(repeat first|exact In.here|apply In.there|apply In.skip));rintro _ _ ⟨rfl, rfl⟩)
|(apply GC_seqK;intro K hK)
|(apply hK;clear hK K)
|(apply GC_block)
|(apply GC_region)
|(apply GL_nil)
|(apply thenG_normal)
|(apply blockG_normal)
|(apply GC_skip)
|(apply GC_if_true;eq_refl)
|(apply GL_on;eq_refl;eq_refl)
|(apply GL_off;eq_refl;eq_refl)
|(apply G_pv;eq_refl;first|exact trivial|omega)
|(apply G_rd;eq_refl;(first|(apply Rd.own;(repeat first|exact In.here|apply In.there|apply In.skip);infer_instance)|(apply Rd.old;(repeat first|exact In.here|apply In.there|apply In.skip);assumption)|(apply Rd.oldR;(repeat first|exact In.here|apply In.there|apply In.skip);assumption)|exact Rd.nil|assumption);(case ih => infer_instance);omega;omega;eq_refl)
|(apply G_cmpT;eq_refl;eq_refl;omega)
|(apply G_ix;eq_refl;eq_refl;(first|(apply Rd.own;(repeat first|exact In.here|apply In.there|apply In.skip);infer_instance)|(apply Rd.old;(repeat first|exact In.here|apply In.there|apply In.skip);assumption)|(apply Rd.oldR;(repeat first|exact In.here|apply In.there|apply In.skip);assumption)|exact Rd.nil|assumption);(first|eq_refl|omega);omega;omega))
            exact ⟨(j + 1, false), (by repeat first | exact trivial | refine ⟨rfl, ?_⟩), (by repeat first | exact Wk.nil | exact Wk.refl | (apply Wk.cons; (focus ((repeat first | exact Rem.here | apply Rem.there | apply Rem.skip); done))) | apply Wk.nilv | apply Wk.last | apply Wk.drop), ⟨hlt2, by rw [e5]; rfl⟩, by dsimp only; omega⟩
          · by_cases h1 : tl V (gt ls (j : Int)) = 1
            · rw [h1] at hlj
              repeat' (first
|(apply G_call;eq_refl;eq_refl;(apply hlj;(repeat first|exact In.here|apply In.there|apply In.skip);(repeat first|exact In.here|apply In.there|apply In.skip));rintro _ _ ⟨rfl, rfl⟩)
|(apply GC_seqK;intro K hK)
|(apply hK;clear hK K)
|(apply GC_block)
|(apply GC_region)
|(apply GL_nil)
|(apply thenG_normal)
|(apply blockG_normal)
|(apply GC_skip)
|(apply GC_if_true;eq_refl)
|(apply GL_on;eq_refl;eq_refl)
|(apply G_pv;eq_refl;first|exact trivial|omega)
|(apply G_rd;eq_refl;(first|(apply Rd.own;(repeat first|exact In.here|apply In.there|apply In.skip);infer_instance)|(apply Rd.old;(repeat first|exact In.here|apply In.there|apply In.skip);assumption)|(apply Rd.oldR;(repeat first|exact In.here|apply In.there|apply In.skip);assumption)|exact Rd.nil|assumption);(case ih => infer_instance);omega;omega;eq_refl)
|(apply G_cmpT;eq_refl;eq_refl;omega)
|(apply G_ix;eq_refl;eq_refl;(first|(apply Rd.own;(repeat first|exact In.here|apply In.there|apply In.skip);infer_instance)|(apply Rd.old;(repeat first|exact In.here|apply In.there|apply In.skip);assumption)|(apply Rd.oldR;(repeat first|exact In.here|apply In.there|apply In.skip);assumption)|exact Rd.nil|assumption);(first|eq_refl|omega);omega;omega))
              exact ⟨(j + 1, true), (by repeat first | exact trivial | refine ⟨rfl, ?_⟩), (by repeat first | exact Wk.nil | exact Wk.refl | (apply Wk.cons; (focus ((repeat first | exact Rem.here | apply Rem.there | apply Rem.skip); done))) | apply Wk.nilv | apply Wk.last | apply Wk.drop), ⟨hlt2, by rw [e5, decide_eq_true h1]; rfl⟩, by dsimp only; omega⟩
            · repeat' (first
|(apply G_call;eq_refl;eq_refl;(apply hlj;(repeat first|exact In.here|apply In.there|apply In.skip);(repeat first|exact In.here|apply In.there|apply In.skip));rintro _ _ ⟨rfl, rfl⟩)
|(apply GC_seqK;intro K hK)
|(apply hK;clear hK K)
|(apply GC_block)
|(apply GC_region)
|(apply GL_nil)
|(apply thenG_normal)
|(apply blockG_normal)
|(apply GC_skip)
|(apply GC_if_true;eq_refl)
|(apply GL_on;eq_refl;eq_refl)
|(apply G_pv;eq_refl;first|exact trivial|omega)
|(apply G_rd;eq_refl;(first|(apply Rd.own;(repeat first|exact In.here|apply In.there|apply In.skip);infer_instance)|(apply Rd.old;(repeat first|exact In.here|apply In.there|apply In.skip);assumption)|(apply Rd.oldR;(repeat first|exact In.here|apply In.there|apply In.skip);assumption)|exact Rd.nil|assumption);(case ih => infer_instance);omega;omega;eq_refl)
|(apply G_cmpT;eq_refl;eq_refl;omega)
|(apply G_cmpF;eq_refl;eq_refl;omega)
|(apply G_ix;eq_refl;eq_refl;(first|(apply Rd.own;(repeat first|exact In.here|apply In.there|apply In.skip);infer_instance)|(apply Rd.old;(repeat first|exact In.here|apply In.there|apply In.skip);assumption)|(apply Rd.oldR;(repeat first|exact In.here|apply In.there|apply In.skip);assumption)|exact Rd.nil|assumption);(first|eq_refl|omega);omega;omega))
              exact ⟨(j + 1, false), (by repeat first | exact trivial | refine ⟨rfl, ?_⟩), (by repeat first | exact Wk.nil | exact Wk.refl | (apply Wk.cons; (focus ((repeat first | exact Rem.here | apply Rem.there | apply Rem.skip); done))) | apply Wk.nilv | apply Wk.last | apply Wk.drop), ⟨hlt2, by rw [e5, decide_eq_false h1]; rfl⟩, by dsimp only; omega⟩
        · obtain rfl : j = ls.length := by omega
          rw [List.take_length, hZ1] at hx
          subst hx
          repeat' (first
|(apply GC_seqK;intro K hK)
|(apply hK;clear hK K)
|(clear hK K;apply hK;clear hK K)
|(apply GC_region)
|(apply GL_nil)
|(apply thenG_normal)
|(apply thenG_exit)
|(apply blockG_hit)
|(apply blockG_normal)
|(apply GC_exit)
|(apply GC_skip)
|(apply GC_if_false;eq_refl)
|(apply GL_on;eq_refl;eq_refl)
|(apply G_pv;eq_refl;first|exact trivial|omega)
|(apply G_cmpT;eq_refl;eq_refl;omega)
|(apply G_cmpF;eq_refl;eq_refl;omega)
|(apply G_neqB;eq_refl;eq_refl))
          exact ⟨1, (by repeat first | exact trivial | refine ⟨rfl, ?_⟩), (by repeat first | exact Wk.nil | exact Wk.refl | (apply Wk.cons; (focus ((repeat first | exact Rem.here | apply Rem.there | apply Rem.skip); done))) | apply Wk.nilv | apply Wk.last | apply Wk.drop), by omega, by omega⟩
      · have hkl : k < Z.length := by omega
        have e7 : ((k + 1 : Nat) : Int) - 1 = (k : Int) := by omega
        rw [e7]
        have e8 : ((k + 2 : Nat) : Int) - 1 = (k : Int) + 1 := by omega
        by_cases h2 : gt Z (k : Int) = 2
        · repeat' (first
|(apply G_appBV (enc := icell) ([] : List Int);(first|exact wr_p|kernel_rfl);eq_refl;eq_refl;infer_instance;(repeat first|exact Upd.here|apply Upd.there|apply Upd.skip);exact Dec.nil;(repeat first|exact In.here|apply In.there|apply In.skip);(intro A c;(repeat first|exact Upd.here|apply Upd.there|apply Upd.skip));eq_refl;eq_refl;exact Nat.le_of_ble_eq_true rfl;eq_refl;eq_refl;(simp only [List.length_nil];omega);decide;intro A11 k11;simp only [List.nil_append])
|(apply GC_seqK;intro K hK)
|(apply hK;clear hK K)
|(clear hK K;clear hK K;apply hK;clear hK K)
|(apply GC_block)
|(apply GC_region)
|(apply GL_nil)
|(apply thenG_normal)
|(apply thenG_exit)
|(apply blockG_hit)
|(apply GC_exit)
|(apply GC_skip)
|(apply GC_if_true;eq_refl)
|(apply GL_on;eq_refl;eq_refl)
|(apply G_pv;eq_refl;first|exact trivial|omega)
|(apply G_rd;eq_refl;(first|(apply Rd.own;(repeat first|exact In.here|apply In.there|apply In.skip);infer_instance)|(apply Rd.old;(repeat first|exact In.here|apply In.there|apply In.skip);assumption)|(apply Rd.oldR;(repeat first|exact In.here|apply In.there|apply In.skip);assumption)|exact Rd.nil|assumption);(case ih => infer_instance);omega;omega;eq_refl)
|(apply G_cmpT;eq_refl;eq_refl;omega)
|(apply G_len;eq_refl)
|(apply G_ix;eq_refl;eq_refl;(first|(apply Rd.own;(repeat first|exact In.here|apply In.there|apply In.skip);infer_instance)|(apply Rd.old;(repeat first|exact In.here|apply In.there|apply In.skip);assumption)|(apply Rd.oldR;(repeat first|exact In.here|apply In.there|apply In.skip);assumption)|exact Rd.nil|assumption);(first|eq_refl|omega);omega;omega)
|(apply G_new (fun b => .slice (some ⟨b, 0, none⟩) 0 0);eq_refl;(intro _;apply buildS22_0);intro _))
          exact ⟨k + 2, (by rw [e8]; exact (by repeat first | exact trivial | refine ⟨rfl, ?_⟩)), (by repeat first | exact Wk.nil | exact Wk.refl | (apply Wk.cons; (focus ((repeat first | exact Rem.here | apply Rem.there | apply Rem.skip); done))) | apply Wk.nilv | apply Wk.last | apply Wk.drop), by omega, by omega⟩
        · obtain ⟨q1, q2⟩ := hZm k (by omega) h2
          have hv := hval (Z.set (k : Int).toNat 2) (by rw [List.length_set]; exact hZl) (hZ3.set Is3.two)
          have hl := hlit (Z.set (k : Int).toNat 2) (by rw [List.length_set]; exact hZl) (hZ3.set Is3.two)
          rw [Int.toNat_natCast] at hv hl
          rw [List.length_set] at hv
          generalize valT c (Z.set k 2) r = V at *
          repeat' (first
|(apply G_appBV (enc := icell) ([] : List Int);(first|exact wr_p|kernel_rfl);eq_refl;eq_refl;infer_instance;(repeat first|exact Upd.here|apply Upd.there|apply Upd.skip);exact Dec.nil;(repeat first|exact In.here|apply In.there|apply In.skip);(intro A c;(repeat first|exact Upd.here|apply Upd.there|apply Upd.skip));eq_refl;eq_refl;exact Nat.le_of_ble_eq_true rfl;eq_refl;eq_refl;(simp only [List.length_nil];omega);decide;intro A11 k11;simp only [List.nil_append])
|(apply G_call;eq_refl;eq_refl;(apply hv;(repeat first|exact In.here|apply In.there|apply In.skip);(repeat first|exact In.here|apply In.there|apply In.skip));rintro _ _ ⟨A9, k9, rfl, rfl⟩)
|(apply GC_seqK;intro K hK)
|(apply hK;clear hK K)
|(apply GC_block)
|(apply GC_region)
|(apply GL_nil)
|(apply thenG_normal)
|(apply GC_skip)
|(apply GC_if_true;eq_refl)
|(apply GC_if_false;eq_refl)
|(apply GL_on;eq_refl;eq_refl)
|(refine GC_draws (id := 14) [.q 0, .q 1, .q 2, .q 3, .q 4, .q 5, .q 6, .q 7, .q 8, .q 9] mixed (by kernel_rfl) (by kernel_rfl) ?_)
|(apply GS_nil)
|(apply GS_qon;eq_refl;eq_refl;eq_refl;eq_refl)
|(apply G_pv;eq_refl;first|exact trivial|omega)
|(apply G_field;eq_refl)
|(apply G_ld;eq_refl;(repeat first|exact In.here|apply In.there|apply In.skip);eq_refl)
|(apply G_ldW;eq_refl;(repeat first|exact In.here|apply In.there|apply In.skip);eq_refl)
|(apply G_rd;eq_refl;(first|(apply Rd.own;(repeat first|exact In.here|apply In.there|apply In.skip);infer_instance)|(apply Rd.old;(repeat first|exact In.here|apply In.there|apply In.skip);assumption)|(apply Rd.oldR;(repeat first|exact In.here|apply In.there|apply In.skip);assumption)|exact Rd.nil|assumption);(case ih => infer_instance);omega;omega;eq_refl)
|(apply G_cmpT;eq_refl;eq_refl;omega)
|(apply G_cmpF;eq_refl;eq_refl;omega)
|(apply G_len;eq_refl)
|(apply G_ix;eq_refl;eq_refl;(first|(apply Rd.own;(repeat first|exact In.here|apply In.there|apply In.skip);infer_instance)|(apply Rd.old;(repeat first|exact In.here|apply In.there|apply In.skip);assumption)|(apply Rd.oldR;(repeat first|exact In.here|apply In.there|apply In.skip);assumption)|exact Rd.nil|assumption);(first|eq_refl|omega);omega;omega)
|(apply G_stV;(first|exact wr_p|kernel_rfl);eq_refl;eq_refl;eq_refl;eq_refl;(repeat first|exact Upd.here|apply Upd.there|apply Upd.skip);infer_instance;infer_instance;eq_refl;omega;(try simp only [List.length_set, List.length_append, List.length_replicate]);omega)
|(apply G_new (fun b => .slice (some ⟨b, 0, none⟩) 0 0);eq_refl;(intro _;apply buildS22_0);intro _))
          refine GC_loopK [2, 3, 5, 7, 9, 80, 81] (fun s : Nat × Bool => [(82, nu s.1), (11, .bool s.2)]) (fun _ => [.vec icell 1 3 A9 k9 V, .vec icell 1 3 A8 k8 Z, .box b2 29 (ccells c h), .box b3 31 [.slice S s.length k1, .slice T r.length k2, .slice L ls.length k3], .old w none_]) (fun s => s.1 ≤ ls.length ∧ s.2 = onesT V (ls.take s.1)) (fun s => ls.length - s.1) (0, true) (by repeat first | exact Pick.nil | (apply Pick.cons; eq_refl)) (by repeat first | exact trivial | refine ⟨rfl, ?_⟩) (by repeat first | exact Wk.nil | exact Wk.refl | (apply Wk.cons; (focus ((repeat first | exact Rem.here | apply Rem.there | apply Rem.skip); done))) | apply Wk.nilv | apply Wk.last | apply Wk.drop) ⟨Nat.zero_le _, rfl⟩ ?_
          rintro ⟨j, x⟩ ⟨hj, hx⟩
          dsimp only at hj hx ⊢
          rcases Nat.lt_or_ge j ls.length with hlt2 | hge2
          · have hlj := hl _ (gt_mem (l := ls) (i := (j : Int)) (by omega) (by omega))
            have e5 := ones_take (v := V) hlt2
            rw [← hx] at e5
            cases x
            · repeat' (first
|(apply G_call;eq_refl;eq_refl;(apply hlj;(repeat first|exact In.here|apply In.there|apply In.skip);(repeat first|exact In.here|apply In.there|apply In.skip));rintro _ _ ⟨rfl, rfl⟩)
|(apply GC_seqK;intro K hK)
|(apply hK;clear hK K)
|(apply GC_block)
|(apply GC_region)
|(apply GL_nil)
|(apply thenG_normal)
|(apply blockG_normal)
|(apply GC_skip)
|(apply GC_if_true;eq_refl)
|(apply GL_on;eq_refl;eq_refl)
|(apply GL_off;eq_refl;eq_refl)
|(apply G_pv;eq_refl;first|exact trivial|omega)
|(apply G_rd;eq_refl;(first|(apply Rd.own;(repeat first|exact In.here|apply In.there|apply In.skip);infer_instance)|(apply Rd.old;(repeat first|exact In.here|apply In.there|apply In.skip);assumption)|(apply Rd.oldR;(repeat first|exact In.here|apply In.there|apply In.skip);assumption)|exact Rd.nil|assumption);(case ih => infer_instance);omega;omega;eq_refl)
|(apply G_cmpT;eq_refl;eq_refl;omega)
|(apply G_ix;eq_refl;eq_refl;(first|(apply Rd.own;(repeat first|exact In.here|apply In.there|apply In.skip);infer_instance)|(apply Rd.old;(repeat first|exact In.here|apply In.there|apply In.skip);assumption)|(apply Rd.oldR;(repeat first|exact In.here|apply In.there|apply In.skip);assumption)|exact Rd.nil|assumption);(first|eq_refl|omega);omega;omega))
              exact ⟨(j + 1, false), (by repeat first | exact trivial | refine ⟨rfl, ?_⟩), (by repeat first | exact Wk.nil | exact Wk.refl | (apply Wk.cons; (focus ((repeat first | exact Rem.here | apply Rem.there | apply Rem.skip); done))) | apply Wk.nilv | apply Wk.last | apply Wk.drop), ⟨hlt2, by rw [e5]; rfl⟩, by dsimp only; omega⟩
            · by_cases h1 : tl V (gt ls (j : Int)) = 1
              · rw [h1] at hlj
                repeat' (first
|(apply G_call;eq_refl;eq_refl;(apply hlj;(repeat first|exact In.here|apply In.there|apply In.skip);(repeat first|exact In.here|apply In.there|apply In.skip));rintro _ _ ⟨rfl, rfl⟩)
|(apply GC_seqK;intro K hK)
|(apply hK;clear hK K)
|(apply GC_block)
|(apply GC_region)
|(apply GL_nil)
|(apply thenG_normal)
|(apply blockG_normal)
|(apply GC_skip)
|(apply GC_if_true;eq_refl)
|(apply GL_on;eq_refl;eq_refl)
|(apply G_pv;eq_refl;first|exact trivial|omega)
|(apply G_rd;eq_refl;(first|(apply Rd.own;(repeat first|exact In.here|apply In.there|apply In.skip);infer_instance)|(apply Rd.old;(repeat first|exact In.here|apply In.there|apply In.skip);assumption)|(apply Rd.oldR;(repeat first|exact In.here|apply In.there|apply In.skip);assumption)|exact Rd.nil|assumption);(case ih => infer_instance);omega;omega;eq_refl)
|(apply G_cmpT;eq_refl;eq_refl;omega)
|(apply G_ix;eq_refl;eq_refl;(first|(apply Rd.own;(repeat first|exact In.here|apply In.there|apply In.skip);infer_instance)|(apply Rd.old;(repeat first|exact In.here|apply In.there|apply In.skip);assumption)|(apply Rd.oldR;(repeat first|exact In.here|apply In.there|apply In.skip);assumption)|exact Rd.nil|assumption);(first|eq_refl|omega);omega;omega))
                exact ⟨(j + 1, true), (by repeat first | exact trivial | refine ⟨rfl, ?_⟩), (by repeat first | exact Wk.nil | exact Wk.refl | (apply Wk.cons; (focus ((repeat first | exact Rem.here | apply Rem.there | apply Rem.skip); done))) | apply Wk.nilv | apply Wk.last | apply Wk.drop), ⟨hlt2, by rw [e5, decide_eq_true h1]; rfl⟩, by dsimp only; omega⟩
              · repeat' (first
|(apply G_call;eq_refl;eq_refl;(apply hlj;(repeat first|exact In.here|apply In.there|apply In.skip);(repeat first|exact In.here|apply In.there|apply In.skip));rintro _ _ ⟨rfl, rfl⟩)
|(apply GC_seqK;intro K hK)
|(apply hK;clear hK K)
|(apply GC_block)
|(apply GC_region)
|(apply GL_nil)
|(apply thenG_normal)
|(apply blockG_normal)
|(apply GC_skip)
|(apply GC_if_true;eq_refl)
|(apply GL_on;eq_refl;eq_refl)
|(apply G_pv;eq_refl;first|exact trivial|omega)
|(apply G_rd;eq_refl;(first|(apply Rd.own;(repeat first|exact In.here|apply In.there|apply In.skip);infer_instance)|(apply Rd.old;(repeat first|exact In.here|apply In.there|apply In.skip);assumption)|(apply Rd.oldR;(repeat first|exact In.here|apply In.there|apply In.skip);assumption)|exact Rd.nil|assumption);(case ih => infer_instance);omega;omega;eq_refl)
|(apply G_cmpT;eq_refl;eq_refl;omega)
|(apply G_cmpF;eq_refl;eq_refl;omega)
|(apply G_ix;eq_refl;eq_refl;(first|(apply Rd.own;(repeat first|exact In.here|apply In.there|apply In.skip);infer_instance)|(apply Rd.old;(repeat first|exact In.here|apply In.there|apply In.skip);assumption)|(apply Rd.oldR;(repeat first|exact In.here|apply In.there|apply In.skip);assumption)|exact Rd.nil|assumption);(first|eq_refl|omega);omega;omega))
                exact ⟨(j + 1, false), (by repeat first | exact trivial | refine ⟨rfl, ?_⟩), (by repeat first | exact Wk.nil | exact Wk.refl | (apply Wk.cons; (focus ((repeat first | exact Rem.here | apply Rem.there | apply Rem.skip); done))) | apply Wk.nilv | apply Wk.last | apply Wk.drop), ⟨hlt2, by rw [e5, decide_eq_false h1]; rfl⟩, by dsimp only; omega⟩
          · obtain rfl : j = ls.length := by omega
            rw [List.take_length, q2] at hx
            subst hx
            repeat' (first
|(apply GC_seqK;intro K hK)
|(apply hK;clear hK K)
|(clear hK K;apply hK;clear hK K)
|(apply GC_region)
|(apply GL_nil)
|(apply thenG_normal)
|(apply thenG_exit)
|(apply blockG_hit)
|(apply blockG_normal)
|(apply GC_exit)
|(apply GC_skip)
|(apply GC_if_false;eq_refl)
|(apply GL_on;eq_refl;eq_refl)
|(apply G_pv;eq_refl;first|exact trivial|omega)
|(apply G_cmpF;eq_refl;eq_refl;omega)
|(apply G_neqB;eq_refl;eq_refl))
            exact ⟨k + 2, (by rw [e8]; exact (by repeat first | exact trivial | refine ⟨rfl, ?_⟩)), (by repeat first | exact Wk.nil | exact Wk.refl | (apply Wk.cons; (focus ((repeat first | exact Rem.here | apply Rem.there | apply Rem.skip); done))) | apply Wk.nilv | apply Wk.last | apply Wk.drop), by omega, by omega⟩
    · obtain rfl : i = Z.length + 1 := by omega
      repeat' (first
|(apply GC_seqK;intro K hK)
|(apply hK;clear hK K)
|(clear hK K;apply hK;clear hK K)
|(apply GC_region)
|(apply GL_nil)
|(apply thenG_normal)
|(apply thenG_exit)
|(apply blockG_hit)
|(apply GC_ret)
|(apply GC_exit)
|(apply GC_if_false;eq_refl)
|(apply retG1;eq_refl)
|(apply GL_on;eq_refl;eq_refl)
|(apply G_pv;eq_refl;first|exact trivial|omega)
|(apply G_cmpF;eq_refl;eq_refl;omega)
|(apply G_len;eq_refl))
      exact ⟨[], (by repeat first | exact Wk.nil | exact Wk.refl | (apply Wk.cons; (focus ((repeat first | exact Rem.here | apply Rem.there | apply Rem.skip); done))) | apply Wk.nilv | apply Wk.last | apply Wk.drop), rfl, rfl⟩
  · have e1 : lfM c s r ls = [] := if_neg he
    rw [e1] at hli
    generalize lfE c s r ls = ε at *
    repeat' (first
|(apply G_call;eq_refl;eq_refl;(apply hW;(repeat first|exact In.here|apply In.there|apply In.skip));rintro _ _ ⟨rfl, rfl⟩)
|(apply G_call;eq_refl;eq_refl;(apply hli;(repeat first|exact In.here|apply In.there|apply In.skip));rintro _ _ ⟨A8, k8, rfl, rfl⟩)
|(apply GC_seqK;intro K hK)
|(apply hK;clear hK K)
|(apply GC_region)
|(apply GL_nil)
|(apply thenG_normal)
|(apply thenG_ret)
|(apply GC_ret)
|(apply GC_skip)
|(apply GC_if_true;eq_refl)
|(apply GC_if_false;eq_refl)
|(apply retG1;eq_refl)
|(apply GL_on;eq_refl;eq_refl)
|(apply G_pv;eq_refl;first|exact trivial|omega)
|(apply G_field;eq_refl)
|(apply G_ld;eq_refl;(repeat first|exact In.here|apply In.there|apply In.skip);eq_refl)
|(apply G_ldW;eq_refl;(repeat first|exact In.here|apply In.there|apply In.skip);eq_refl)
|(apply G_cmpT;eq_refl;eq_refl;omega)
|(apply G_cmp;eq_refl;eq_refl;all_goals intro _)
|(apply G_len;eq_refl)
|(apply G_box;eq_refl;eq_refl;intro _))
    all_goals first | exact ⟨[], (by repeat first | exact Wk.nil | exact Wk.refl | (apply Wk.cons; (focus ((repeat first | exact Rem.here | apply Rem.there | apply Rem.skip); done))) | apply Wk.nilv | apply Wk.last | apply Wk.drop), rfl, rfl⟩ | (exfalso; simp at *; done)
end SC
end Go.Proofs.YtclihihdgodloaaDoor
end
